/-
  arraskeep.Data: bytes made of raw numbers: some text of at most 200 bytes. Conditions: the table of powers of ten that the library reads is in place.
-/
import Derived.Test.YtgjijcgkmofaaaaGreatDoorU13
import Derived.Lib.ItoaLen
import Derived.Laws.CopyRow
import Derived.Lib.SlBuf
namespace Go.Proofs.YtgjijcgkmofaaaaGreatDoor
set_option linter.unusedSimpArgs false
set_option linter.unusedVariables false
set_option maxRecDepth 100000
set_option maxHeartbeats 8000000
open Go.RowKit
def Tab (w : World) : Prop := Lib.TabIs Tryz.prog w "internal/strconv.uint64pow10" .u64 Lib.pow10Tab
theorem Tab.ext {w w' : World} (h : Tab w) (k : Ext w w') : Tab w' := by
 unfold Tab Lib.TabIs World.var? at *
 cases hg : Tryz.prog.globalNamed "internal/strconv.uint64pow10" with
 | none => rw [hg] at h; exact absurd h (by simp)
 | some g =>
  rw [hg] at h
  simp only [Option.bind_some] at h ⊢
  have hlt : g < w.heap.size := by
   cases hh : w.heap[g]? with
   | none => rw [hh] at h; exact absurd h (by simp)
   | some o => exact (Array.getElem?_eq_some_iff.1 hh).1
  rw [show w'.heap[g]? = w.heap[g]? from k.below.block g hlt]
  exact h
theorem itoa_any (n : Int) (w : World) (h0 : 0 ≤ n) (h1 : n ≤ 1000) (ht : Tab w) :
  Calls Tryz.prog 43 #[.int .i64 n] w fun e w' => ∃ s : ByteArray, e = .returned (.string s) ∧ s.size ≤ 21 ∧ Ext w w' := by
 refine (Tryz.strconv_Itoa n (by omega) (by omega) w ht).mono ?_
 rintro e w' ⟨rfl, k, os, rfl⟩
 refine ⟨_, rfl, ?_, ?_⟩
 ·have := Lib.itoa_length_le n (by omega) (by omega)
  show (Lib.itoa n).toArray.size ≤ 21
  simpa using this
 ·refine ⟨rfl, rfl, rfl, ?_, fun b hb => ?_⟩
  ·show w.heap.size ≤ (w.heap ++ os).size
   rw [Array.size_append]; omega
  ·show (w.heap ++ os)[b]? = w.heap[b]?
   exact Array.getElem?_append_left hb
theorem repeatL_length (l : List UInt8) (n : Nat) : (Lib.repeatL l n).length = l.length * n := by
 induction n with
 | zero => rfl
 | succ n ih => unfold Lib.repeatL; rw [List.length_append, ih, Nat.mul_succ]; omega
theorem rep_any (s : ByteArray) (c : Nat) (w : World) (B : Nat) (h : s.size * c ≤ B) (hB : B ≤ 1000) (hc : c ≤ 1000) :
  Calls Tryz.prog 56 #[.string s, .int .i64 c] w fun e w' => ∃ t : ByteArray, e = .returned (.string t) ∧ t.size ≤ B ∧ Ext w w' := by
 refine (Tryz.strings_Repeat s c w (by omega) (by omega)).mono ?_
 rintro e w' ⟨rfl, hx⟩
 refine ⟨_, rfl, ?_, hx⟩
 show (Lib.repeatL s.data.toList c).toArray.size ≤ B
 have := repeatL_length s.data.toList c
 have h2 : s.data.toList.length = s.size := length_lst s
 rw [h2] at this
 simpa [this] using h
theorem info_byte0 : (Tryz.prog.info? 5).map (fun i => (i.zero, i.size, i.bytes)) = some (some (.int .u8 0), 1, 1) := by kernel_rfl
theorem zero_bytes (n : Nat) : ∀ i, i < n → ((List.replicate n (0 : UInt8)).getD i 0).toNat = 0 := by
 intro i hi
 rw [List.getD_eq_getElem?_getD, List.getElem?_replicate, if_pos hi]; rfl
theorem Buf.zeros (e : TypeId) (w : World) (cs : Array Value) (n : Nat) (hc : cs.toList = List.replicate n (.int .u8 0)) : Buf e (w.alloc (.cells cs e)) w.heap.size (List.replicate n 0) := by
 refine ⟨cs, (0, 0), heap_alloc_new w _, fun i hi => ?_, fun i hi => by simp⟩
 rw [List.length_replicate] at hi
 have := zero_bytes n i hi
 rw [this, ← Array.getElem?_toList, hc, List.getElem?_replicate, if_pos hi]
 rfl
theorem data_any (r : Raw4) (w : World) (hi : I64 r.kind ∧ I64 r.a ∧ I64 r.b ∧ I64 r.c) (ht : Tab w) :
  Calls Tryz.prog 44 #[.agg #[.int .i64 r.kind, .int .i64 r.a, .int .i64 r.b, .int .i64 r.c]] w fun e w' => ∃ s : ByteArray, e = .returned (.string s) ∧ s.size ≤ 200 ∧ Ext w w' := by
 have HI := Lib.hid hi
 have HTAB0 := Lib.hid ht
 clear hi ht
 go_enter Tryz.func44, Tryz.ntmps44
 go_wp2_with fail
 refine calls_abs (fun W => Ext w W ∧ Blk_ W w.heap.size 82 #[.int .i64 r.kind, .int .i64 r.a, .int .i64 r.b, .int .i64 r.c]) ⟨(Ext.refl _).alloc _, Blk_.new _ _ _⟩ ?_
 rintro w1 ⟨hx1, hb1⟩
 have HB := Lib.hid hb1
 have HX := Lib.hid hx1
 have HTAB := Lib.hid (HTAB0.out.ext hx1)
 have hg := hb1.lt
 obtain ⟨g, hgg⟩ : ∃ g, g = w.heap.size := ⟨_, rfl⟩
 rw [← hgg] at HB hg ⊢
 clear hx1 hb1 hgg HTAB0
 refine (picked_any r.a 30 w1 HI.out.2.1 (by omega) (by omega)).mono ?_
 rintro e w2 ⟨rfl, hw⟩
 obtain rfl := hw.symm
 have hm := pick_range r.a 30 (by decide)
 obtain ⟨n, hn⟩ := Int.eq_ofNat_of_zero_le hm.1
 rw [hn] at hm ⊢
 have HN := Lib.hid (show n < 30 by omega)
 have hn30 : (n : Int) < 30 := by omega
 clear hm hn
 have f0 := HB.out.cell 0
 have f1 := HB.out.cell 1
 have f2 := HB.out.cell 2
 have f3 := HB.out.cell 3
 simp at f0 f1 f2 f3
 go_wp2_with fail
 refine (picked_any r.kind 5 w1 HI.out.1 (by omega) (by omega)).mono ?_
 rintro e w2 ⟨rfl, hw⟩
 obtain rfl := hw.symm
 have hm := pick_range r.kind 5 (by decide)
 obtain ⟨kd, hkd⟩ : ∃ kd, kd = pick r.kind 5 := ⟨_, rfl⟩
 rw [← hkd] at hm ⊢
 clear hkd
 have hcs : kd = 0 ∨ kd = 1 ∨ kd = 2 ∨ kd = 3 ∨ kd = 4 := by omega
 clear hm
 rcases hcs with rfl | rfl | rfl | rfl | rfl
 ·clear f0 f1 f2 f3
  go_wp2_with fail
  refine (rep_any (⟨#[97, 98]⟩) n w1 58 (by have h2 : ((⟨#[97, 98]⟩) : ByteArray).size = 2 := rfl; have := HN.out; rw [h2]; omega) (by decide) (by have := HN.out; omega)).mono ?_
  rintro e w2 ⟨s, rfl, hz, hx⟩
  go_wp2_with fail
  go_ret
  exact ⟨s, rfl, by omega, HX.out.trans hx⟩
 ·clear f0 f1 f2 f3
  go_wp2_with fail
  refine wp_region_vals (F := ?_) ?_ [(fun (v : Value) (_ : World) => v = .int .i64 (n : Int)), (fun v _ => ∃ s : ByteArray, v = .string s ∧ s.size ≤ 21), (fun v _ => ∃ s : ByteArray, v = .string s ∧ s.size ≤ 26), (fun v _ => ∃ s : ByteArray, v = .string s ∧ s.size ≤ 32), (fun (v : Value) (_ : World) => v = .pointer (some ⟨g, 2, none⟩)), (fun (v : Value) (_ : World) => v = .int .i64 r.b), (fun (v : Value) (_ : World) => v = .int .i64 (pick r.b 30)), (fun v _ => ∃ s : ByteArray, v = .string s ∧ s.size ≤ 21), (fun v _ => ∃ s : ByteArray, v = .string s ∧ s.size ≤ 53), (fun v _ => ∃ s : ByteArray, v = .string s ∧ s.size ≤ 59), (fun (v : Value) (_ : World) => v = .int .i64 (n : Int)), (fun v _ => ∃ s : ByteArray, v = .string s ∧ s.size ≤ 21), (fun v _ => ∃ s : ByteArray, v = .string s ∧ s.size ≤ 80), (fun v _ => ∃ s : ByteArray, v = .string s ∧ s.size ≤ 81), (fun v _ => ∃ s : ByteArray, v = .string s ∧ s.size ≤ 81)] (by kernel_rfl) (by kernel_rfl) ?_ ?_ ?_
  rotate_left
  ·intro vals
   simp only [putAll, Act.put, List.setIfInBounds_toArray, List.set_cons_zero, List.set_cons_succ, Nat.zero_add, Nat.reduceAdd]
   rfl
  ·simp only [List.forall_mem_cons]
   exact ⟨fun _ _ _ h _ => h, fun _ _ _ h _ => h, fun _ _ _ h _ => h, fun _ _ _ h _ => h, fun _ _ _ h _ => h, fun _ _ _ h _ => h, fun _ _ _ h _ => h, fun _ _ _ h _ => h, fun _ _ _ h _ => h, fun _ _ _ h _ => h, fun _ _ _ h _ => h, fun _ _ _ h _ => h, fun _ _ _ h _ => h, fun _ _ _ h _ => h, fun _ _ _ h _ => h, fun _ h => (by cases h)⟩
  ·refine ⟨?_, ?_, ?_, ?_, ?_, ?_, ?_, ?_, ?_, ?_, ?_, ?_, ?_, ?_, ?_, trivial⟩
   ·intro vals W e hd ho K hK
    exact st_q hK (by go_simp; rfl)
   ·intro vals W e hd ho K hK
    have h0 : vals 0 = .int .i64 (n : Int) := hd 0 (by kernel_rfl)
    go_wp2_with fail
    refine (itoa_any (n : Int) _ (by omega) (by have := HN.out; omega) (HTAB.out.ext ((Ext.refl _).drew.trans e))).mono ?_
    rintro e' u' ⟨s', rfl, hz', hx'⟩
    exact hK _ _ _ (by first | rfl | (simp only [h0]; rfl)) ⟨s', rfl, hz'⟩ hx'
   ·intro vals W e hd ho K hK
    obtain ⟨s1, h1, z1⟩ := hd 1 (by kernel_rfl)
    have c0 : ((⟨#[108, 105, 110, 101, 32]⟩) : ByteArray).size = 5 := rfl
    refine st_concat _ _ _ _ (⟨#[108, 105, 110, 101, 32]⟩) (s1) rfl rfl h1 (by omega) ?_
    exact hK _ _ _ rfl ⟨_, rfl, by rw [ByteArray.size_append]; omega⟩ (Ext.refl _)
   ·intro vals W e hd ho K hK
    obtain ⟨s2, h2, z2⟩ := hd 2 (by kernel_rfl)
    have c0 : ((⟨#[10, 108, 105, 110, 101, 32]⟩) : ByteArray).size = 6 := rfl
    refine st_concat _ _ _ _ (s2) (⟨#[10, 108, 105, 110, 101, 32]⟩) rfl h2 rfl (by omega) ?_
    exact hK _ _ _ rfl ⟨_, rfl, by rw [ByteArray.size_append]; omega⟩ (Ext.refl _)
   ·intro vals W e hd ho K hK
    exact st_q hK (by go_simp; rfl)
   ·intro vals W e hd ho K hK
    have h4 : vals 4 = .pointer (some ⟨g, 2, none⟩) := hd 4 (by kernel_rfl)
    have cc := (HB.out.drew.ext e).cell 2
    simp at cc
    refine st_quiet (v := ?_) ?_ ?_
    rotate_left
    ·go_simp
     rfl
    exact hK _ _ _ rfl rfl (Ext.refl _)
   ·intro vals W e hd ho K hK
    have h5 : vals 5 = .int .i64 r.b := hd 5 (by kernel_rfl)
    go_wp2_with fail
    refine (picked_any r.b 30 _ HI.out.2.2.1 (by omega) (by omega)).mono ?_
    rintro e' u' ⟨rfl, rfl⟩
    exact hK _ _ _ (by first | rfl | (simp only [h5]; rfl)) rfl (Ext.refl _)
   ·intro vals W e hd ho K hK
    have h6 : vals 6 = .int .i64 (pick r.b 30) := hd 6 (by kernel_rfl)
    go_wp2_with fail
    refine (itoa_any (pick r.b 30) _ (pick_range r.b 30 (by decide)).1 (by have := pick_range r.b 30 (by decide); omega) (HTAB.out.ext ((Ext.refl _).drew.trans e))).mono ?_
    rintro e' u' ⟨s', rfl, hz', hx'⟩
    exact hK _ _ _ (by first | rfl | (simp only [h6]; rfl)) ⟨s', rfl, hz'⟩ hx'
   ·intro vals W e hd ho K hK
    obtain ⟨s3, h3, z3⟩ := hd 3 (by kernel_rfl)
    obtain ⟨s7, h7, z7⟩ := hd 7 (by kernel_rfl)
    refine st_concat _ _ _ _ (s3) (s7) rfl h3 h7 (by omega) ?_
    exact hK _ _ _ rfl ⟨_, rfl, by rw [ByteArray.size_append]; omega⟩ (Ext.refl _)
   ·intro vals W e hd ho K hK
    obtain ⟨s8, h8, z8⟩ := hd 8 (by kernel_rfl)
    have c0 : ((⟨#[10, 108, 105, 110, 101, 32]⟩) : ByteArray).size = 6 := rfl
    refine st_concat _ _ _ _ (s8) (⟨#[10, 108, 105, 110, 101, 32]⟩) rfl h8 rfl (by omega) ?_
    exact hK _ _ _ rfl ⟨_, rfl, by rw [ByteArray.size_append]; omega⟩ (Ext.refl _)
   ·intro vals W e hd ho K hK
    exact st_q hK (by go_simp; rfl)
   ·intro vals W e hd ho K hK
    have h10 : vals 10 = .int .i64 (n : Int) := hd 10 (by kernel_rfl)
    go_wp2_with fail
    refine (itoa_any (n : Int) _ (by omega) (by have := HN.out; omega) (HTAB.out.ext ((Ext.refl _).drew.trans e))).mono ?_
    rintro e' u' ⟨s', rfl, hz', hx'⟩
    exact hK _ _ _ (by first | rfl | (simp only [h10]; rfl)) ⟨s', rfl, hz'⟩ hx'
   ·intro vals W e hd ho K hK
    obtain ⟨s9, h9, z9⟩ := hd 9 (by kernel_rfl)
    obtain ⟨s11, h11, z11⟩ := hd 11 (by kernel_rfl)
    refine st_concat _ _ _ _ (s9) (s11) rfl h9 h11 (by omega) ?_
    exact hK _ _ _ rfl ⟨_, rfl, by rw [ByteArray.size_append]; omega⟩ (Ext.refl _)
   ·intro vals W e hd ho K hK
    obtain ⟨s12, h12, z12⟩ := hd 12 (by kernel_rfl)
    have c0 : ((⟨#[10]⟩) : ByteArray).size = 1 := rfl
    refine st_concat _ _ _ _ (s12) (⟨#[10]⟩) rfl h12 rfl (by omega) ?_
    exact hK _ _ _ rfl ⟨_, rfl, by rw [ByteArray.size_append]; omega⟩ (Ext.refl _)
   ·intro vals W e hd ho K hK
    obtain ⟨s13, h13, z13⟩ := hd 13 (by kernel_rfl)
    refine st_quiet (v := ?_) ?_ ?_
    rotate_left
    ·go_simp
     rfl
    exact hK _ _ _ rfl ⟨s13, (by first | exact rfl | exact h13), z13⟩ (Ext.refl _)
  intro vals W e hall
  obtain ⟨s14, h14, z14⟩ := hall 14 (by decide)
  have HXW := Lib.hid (HX.out.trans ((Ext.refl _).drew.trans e))
  clear hall e
  go_wp2_with fail
  go_ret
  exact ⟨s14, congrArg Ending.returned h14, by omega, HXW.out⟩
 ·obtain ⟨i0, hi, hz0, hz1, hz2⟩ := info_parts info_byte0
  obtain ⟨cs, hcs, hmk⟩ := make_row (P := Tryz.prog) 95 5 i0 (.int .u8 0) Tryz.underlying95 hi hz0 hz1 rfl n (by have := HN.out; rw [hz2]; omega) (by have := HN.out; omega)
  have HCS := Lib.hid hcs
  clear hi hz0 hz1 hz2 hcs f0 f1 f2 f3
  go_wp2_with fail
  refine wp_abs (fun W => Ext w1 W ∧ Buf 5 W w1.heap.size (List.replicate n 0)) ⟨(Ext.refl _).alloc _, Buf.zeros _ _ _ _ HCS.out⟩ ?_
  rintro W ⟨hx, hb⟩
  have HX1 := Lib.hid hx
  have HBF := Lib.hid hb
  obtain ⟨gb, hgb⟩ : ∃ gb, gb = w1.heap.size := ⟨_, rfl⟩
  rw [← hgb] at HBF ⊢
  have HGB := Lib.hid hgb
  clear hx hb hmk hgb HCS
  go_wp2_with fail
  go_loopw [38] (fun kv wr => ∃ (k : Nat) (bl : List UInt8), kv = .int .i64 k ∧ k ≤ n ∧ bl.length = n ∧ Ext w1 wr ∧ Buf 5 wr gb bl) (fun kv _ => n - (intOf kv).toNat)
  case atStart => exact ⟨0, _, rfl, Nat.zero_le _, List.length_replicate, HX1.out, HBF.out⟩
  case round =>
   clear HX1 HBF
   obtain ⟨k, bl, rfl, hk, hbl, hx, hb⟩ := hrel
   have HB0 := HB
   by_cases hlt : k < n
   ·have hki : (k : Int) < (n : Int) := by omega
    have HBL := Lib.hid hbl
    have bp := hb.cell k (by omega)
    have bz := hb.frozen k (by omega)
    have HB := Lib.hid (HB0.out.ext hx)
    have HXR := Lib.hid hx
    have HBF := Lib.hid hb
    have HKN := Lib.hid (And.intro hlt hk)
    have p1 := pick_range r.b 50 (by decide)
    have p2 := pick_range r.c 256 (by decide)
    obtain ⟨m1, hm1⟩ : ∃ m1 : Int, m1 = (k : Int) * (k : Int) := ⟨_, rfl⟩
    have y1 : (k : Int) * (k : Int) = m1 := hm1.symm
    have b1 : 0 ≤ m1 ∧ m1 ≤ 841 := by
     rw [hm1]
     have : (k : Int) ≤ 29 := by have := HN.out; omega
     exact ⟨Int.mul_nonneg (by omega) (by omega), Int.le_trans (Int.mul_le_mul this this (by omega) (by omega)) (by decide)⟩
    obtain ⟨m2, hm2⟩ : ∃ m2 : Int, m2 = m1 * pick r.b 50 := ⟨_, rfl⟩
    have y2 : m1 * pick r.b 50 = m2 := hm2.symm
    have b2 : 0 ≤ m2 ∧ m2 ≤ 42050 := by
     rw [hm2]
     exact ⟨Int.mul_nonneg b1.1 p1.1, Int.le_trans (Int.mul_le_mul b1.2 (Int.le_of_lt p1.2) p1.1 (by decide)) (by decide)⟩
    obtain ⟨m3, hm3⟩ : ∃ m3 : Int, m3 = m2 + pick r.c 256 := ⟨_, rfl⟩
    have y3 : m2 + pick r.c 256 = m3 := hm3.symm
    have b3 : 0 ≤ m3 ∧ m3 ≤ 43000 := by omega
    obtain ⟨m4, hm4⟩ : ∃ m4 : Int, m4 = m3 % 256 := ⟨_, rfl⟩
    have y4 : m3 % 256 = m4 := hm4.symm
    have b4 : 0 ≤ m4 ∧ m4 < 256 := by omega
    have HM4 := Lib.hid b4
    obtain ⟨b10, b11⟩ := b1
    obtain ⟨b20, b21⟩ := b2
    obtain ⟨b30, b31⟩ := b3
    obtain ⟨b40, b41⟩ := b4
    clear hm1 hm2 hm3 hm4 p1 p2 hlt hk hbl hx hb HB0
    go_wp2_with fail
    refine wp_region_valsA 99 none (F := ?_) ?_ [(fun (v : Value) (_ : World) => v = .slice (some ⟨gb, 0, none⟩) n n), (fun (v : Value) (_ : World) => v = .int .i64 (k : Int)), (fun (v : Value) (_ : World) => v = .int .i64 (k : Int)), (fun (v : Value) (_ : World) => v = .int .i64 (k : Int)), (fun (v : Value) (_ : World) => v = .int .i64 m1), (fun (v : Value) (_ : World) => v = .pointer (some ⟨g, 2, none⟩)), (fun (v : Value) (_ : World) => v = .int .i64 r.b), (fun (v : Value) (_ : World) => v = .int .i64 (pick r.b 50)), (fun (v : Value) (_ : World) => v = .int .i64 m2), (fun (v : Value) (_ : World) => v = .pointer (some ⟨g, 3, none⟩)), (fun (v : Value) (_ : World) => v = .int .i64 r.c), (fun (v : Value) (_ : World) => v = .int .i64 (pick r.c 256)), (fun (v : Value) (_ : World) => v = .int .i64 m3), (fun (v : Value) (_ : World) => v = .int .u8 m4), (fun (v : Value) (_ : World) => v = .pointer (some ⟨gb, k, none⟩))] (by kernel_rfl) rfl (by kernel_rfl) rfl (by kernel_rfl) ?_ ?_ ?_
    rotate_left
    ·intro vals
     simp only [putAll, List.dropLast, Act.put, List.setIfInBounds_toArray, List.set_cons_zero, List.set_cons_succ, Nat.zero_add, Nat.reduceAdd]
     rfl
    ·intro j p hp v u u' h hr
     match j, hp with
     | 0, hp => obtain rfl := Option.some.inj hp; exact h
     | 1, hp => obtain rfl := Option.some.inj hp; exact h
     | 2, hp => obtain rfl := Option.some.inj hp; exact h
     | 3, hp => obtain rfl := Option.some.inj hp; exact h
     | 4, hp => obtain rfl := Option.some.inj hp; exact h
     | 5, hp => obtain rfl := Option.some.inj hp; exact h
     | 6, hp => obtain rfl := Option.some.inj hp; exact h
     | 7, hp => obtain rfl := Option.some.inj hp; exact h
     | 8, hp => obtain rfl := Option.some.inj hp; exact h
     | 9, hp => obtain rfl := Option.some.inj hp; exact h
     | 10, hp => obtain rfl := Option.some.inj hp; exact h
     | 11, hp => obtain rfl := Option.some.inj hp; exact h
     | 12, hp => obtain rfl := Option.some.inj hp; exact h
     | 13, hp => obtain rfl := Option.some.inj hp; exact h
     | 14, hp => obtain rfl := Option.some.inj hp; exact h
     | n + 15, hp => exact absurd hp (by simp)
    ·refine ⟨?_, ?_, ?_, ?_, ?_, ?_, ?_, ?_, ?_, ?_, ?_, ?_, ?_, ?_, ?_, trivial⟩
     ·intro vals W' e hd ho K hK
      have hx : World.grownBy _ W' none := e
      exact st_q hK (by go_simp; rfl)
     ·intro vals W' e hd ho K hK
      have hx : World.grownBy _ W' none := e
      exact st_q hK (by go_simp; rfl)
     ·intro vals W' e hd ho K hK
      have hx : World.grownBy _ W' none := e
      exact st_q hK (by go_simp; rfl)
     ·intro vals W' e hd ho K hK
      have hx : World.grownBy _ W' none := e
      exact st_q hK (by go_simp; rfl)
     ·intro vals W' e hd ho K hK
      have h2 : vals 2 = .int .i64 (k : Int) := hd 2 (by kernel_rfl)
      have h3 : vals 3 = .int .i64 (k : Int) := hd 3 (by kernel_rfl)
      have hx : World.grownBy _ W' none := e
      exact st_q hK (by go_simp; rfl)
     ·intro vals W' e hd ho K hK
      have hx : World.grownBy _ W' none := e
      exact st_q hK (by go_simp; rfl)
     ·intro vals W' e hd ho K hK
      have h5 : vals 5 = .pointer (some ⟨g, 2, none⟩) := hd 5 (by kernel_rfl)
      have hx : World.grownBy _ W' none := e
      have cc := (HB.out.drew.grown hx (fun q hq => by cases hq)).cell 2
      simp at cc
      refine st_quiet (v := ?_) ?_ ?_
      rotate_left
      ·go_simp
       rfl
      exact hK _ _ _ rfl rfl (Ext.refl _)
     ·intro vals W' e hd ho K hK
      have h6 : vals 6 = .int .i64 r.b := hd 6 (by kernel_rfl)
      have hx : World.grownBy _ W' none := e
      go_wp2_with fail
      refine (picked_any r.b 50 _ HI.out.2.2.1 (by omega) (by omega)).mono ?_
      rintro e' u' ⟨rfl, rfl⟩
      exact hK _ _ _ (by first | rfl | (simp only [h6]; rfl)) rfl (Ext.refl _)
     ·intro vals W' e hd ho K hK
      have h4 : vals 4 = .int .i64 m1 := hd 4 (by kernel_rfl)
      have h7 : vals 7 = .int .i64 (pick r.b 50) := hd 7 (by kernel_rfl)
      have hx : World.grownBy _ W' none := e
      exact st_q hK (by go_simp; rfl)
     ·intro vals W' e hd ho K hK
      have hx : World.grownBy _ W' none := e
      exact st_q hK (by go_simp; rfl)
     ·intro vals W' e hd ho K hK
      have h9 : vals 9 = .pointer (some ⟨g, 3, none⟩) := hd 9 (by kernel_rfl)
      have hx : World.grownBy _ W' none := e
      have cc := (HB.out.drew.grown hx (fun q hq => by cases hq)).cell 3
      simp at cc
      refine st_quiet (v := ?_) ?_ ?_
      rotate_left
      ·go_simp
       rfl
      exact hK _ _ _ rfl rfl (Ext.refl _)
     ·intro vals W' e hd ho K hK
      have h10 : vals 10 = .int .i64 r.c := hd 10 (by kernel_rfl)
      have hx : World.grownBy _ W' none := e
      go_wp2_with fail
      refine (picked_any r.c 256 _ HI.out.2.2.2 (by omega) (by omega)).mono ?_
      rintro e' u' ⟨rfl, rfl⟩
      exact hK _ _ _ (by first | rfl | (simp only [h10]; rfl)) rfl (Ext.refl _)
     ·intro vals W' e hd ho K hK
      have h8 : vals 8 = .int .i64 m2 := hd 8 (by kernel_rfl)
      have h11 : vals 11 = .int .i64 (pick r.c 256) := hd 11 (by kernel_rfl)
      have hx : World.grownBy _ W' none := e
      exact st_q hK (by go_simp; rfl)
     ·intro vals W' e hd ho K hK
      have h12 : vals 12 = .int .i64 m3 := hd 12 (by kernel_rfl)
      have hx : World.grownBy _ W' none := e
      exact st_q hK (by go_simp; rfl)
     ·intro vals W' e hd ho K hK
      have h0 : vals 0 = .slice (some ⟨gb, 0, none⟩) n n := hd 0 (by kernel_rfl)
      have h1 : vals 1 = .int .i64 (k : Int) := hd 1 (by kernel_rfl)
      have hx : World.grownBy _ W' none := e
      exact st_q hK (by go_simp; rfl)
    intro vals W' e hall K hK
    have ex : Ext wr W' := (Ext.refl wr).drew.grown e (fun q hq => by cases hq)
    have q0 := ex.cell bp
    have q1 := (ex.frozen (p := ⟨gb, k, none⟩) HBF.out.lt).trans bz
    have HEX := Lib.hid ex
    have h13 : vals 13 = .int .u8 m4 := hall 13 (by decide)
    have h14 : vals 14 = .pointer (some ⟨gb, k, none⟩) := hall 14 (by decide)
    clear hall e ex bp bz
    go_wp2_with fail
    go_roundw
    case rel => exact ⟨k + 1, bl.set k (byte m4), by first | rfl | go_num, by have := HKN.out; omega, by rw [List.length_set]; exact HBL.out, (HXR.out.trans HEX.out).setCell (by have := HGB.out; dsimp only; omega) _, (HBF.out.ext HEX.out).set k m4 HM4.out.1 HM4.out.2⟩
    case measure => have := HKN.out; (simp [intOf]; try omega)
   ·obtain rfl : k = n := by omega
    have HBF := Lib.hid hb
    have HBL := Lib.hid hbl
    have HXR := Lib.hid hx
    clear hb hx hbl hlt
    go_wp2_with (refine wpList_frombytes (.tmp 57) 95 9 5 rfl rfl Tryz.underlying95 Tryz.underlying5 Tryz.underlying9 gb k k _ HBF.out HBL.out.symm rfl ?_)
    go_wp2_with fail
    go_ret
    exact ⟨_, rfl, by rw [size_bs, HBL.out]; have := HN.out; omega, HX.out.trans HXR.out⟩
 ·have h4 := pick_range r.b 256 (by decide)
  obtain ⟨pb, hpb⟩ : ∃ pb, pb = pick r.b 256 := ⟨_, rfl⟩
  rw [← hpb] at h4
  have HPB := Lib.hid hpb
  obtain ⟨p0, p1⟩ := h4
  obtain ⟨c, hc⟩ : ∃ c : Nat, c = 4 * n := ⟨_, rfl⟩
  have y1 : (4 : Int) * (n : Int) = (c : Int) := by omega
  have HC := Lib.hid (show c ≤ 116 by have := HN.out; omega)
  have hc2 : (c : Int) ≤ 116 := by have := HN.out; omega
  clear hpb hc
  go_wp2_with fail
  refine (picked_any r.b 256 w1 HI.out.2.2.1 (by omega) (by omega)).mono ?_
  rintro e w2 ⟨rfl, hw⟩
  obtain rfl := hw.symm
  rw [← HPB.out]
  clear f0 f1 f2 f3
  go_wp2_with fail
  refine (rep_any (bs [byte pb]) c _ 116 (by rw [size_bs]; show 1 * c ≤ 116; have := HC.out; omega) (by decide) (by have := HC.out; omega)).mono ?_
  rintro e w2 ⟨s, rfl, hz, hx⟩
  have HXW := Lib.hid (HX.out.trans (((Ext.refl _).alloc _).trans hx))
  clear hx
  go_wp2_with fail
  go_ret
  exact ⟨s, rfl, by omega, HXW.out⟩
 ·obtain ⟨q, hq⟩ : ∃ q : Nat, q = n % 4 := ⟨_, rfl⟩
  have y1 : Int.tmod (n : Int) 4 = (q : Int) := by rw [Int.tmod_eq_emod_of_nonneg (by omega)]; omega
  have y1' : (n : Int) % 4 = (q : Int) := by omega
  obtain ⟨c, hc⟩ : ∃ c : Nat, c = 1 + q := ⟨_, rfl⟩
  have y2 : (1 : Int) + (q : Int) = (c : Int) := by omega
  have HC := Lib.hid (show c ≤ 4 by omega)
  have hc2 : (c : Int) ≤ 4 := by omega
  clear hq hc f0 f1 f2 f3
  go_wp2_with fail
  refine wp_region_vals (F := ?_) ?_ [(fun (v : Value) (_ : World) => v = .int .i64 (n : Int)), (fun (v : Value) (_ : World) => v = .int .i64 (q : Int)), (fun (v : Value) (_ : World) => v = .int .i64 (c : Int)), (fun v _ => ∃ s : ByteArray, v = .string s ∧ s.size ≤ 60), (fun (v : Value) (_ : World) => v = .pointer (some ⟨g, 3, none⟩)), (fun (v : Value) (_ : World) => v = .int .i64 r.c), (fun (v : Value) (_ : World) => v = .int .i64 (pick r.c 1000)), (fun v _ => ∃ s : ByteArray, v = .string s ∧ s.size ≤ 21), (fun v _ => ∃ s : ByteArray, v = .string s ∧ s.size ≤ 81), (fun v _ => ∃ s : ByteArray, v = .string s ∧ s.size ≤ 81)] (by kernel_rfl) (by kernel_rfl) ?_ ?_ ?_
  rotate_left
  ·intro vals
   simp only [putAll, Act.put, List.setIfInBounds_toArray, List.set_cons_zero, List.set_cons_succ, Nat.zero_add, Nat.reduceAdd]
   rfl
  ·simp only [List.forall_mem_cons]
   exact ⟨fun _ _ _ h _ => h, fun _ _ _ h _ => h, fun _ _ _ h _ => h, fun _ _ _ h _ => h, fun _ _ _ h _ => h, fun _ _ _ h _ => h, fun _ _ _ h _ => h, fun _ _ _ h _ => h, fun _ _ _ h _ => h, fun _ _ _ h _ => h, fun _ h => (by cases h)⟩
  ·refine ⟨?_, ?_, ?_, ?_, ?_, ?_, ?_, ?_, ?_, ?_, trivial⟩
   ·intro vals W e hd ho K hK
    exact st_q hK (by go_simp; rfl)
   ·intro vals W e hd ho K hK
    have h0 : vals 0 = .int .i64 (n : Int) := hd 0 (by kernel_rfl)
    exact st_q hK (by go_simp; rfl)
   ·intro vals W e hd ho K hK
    have h1 : vals 1 = .int .i64 (q : Int) := hd 1 (by kernel_rfl)
    exact st_q hK (by go_simp; rfl)
   ·intro vals W e hd ho K hK
    have h2 : vals 2 = .int .i64 (c : Int) := hd 2 (by kernel_rfl)
    go_wp2_with fail
    refine (rep_any (⟨#[116, 104, 101, 32, 113, 117, 105, 99, 107, 32, 102, 111, 120, 44, 32]⟩) c _ 60 (by have h15 : ((⟨#[116, 104, 101, 32, 113, 117, 105, 99, 107, 32, 102, 111, 120, 44, 32]⟩) : ByteArray).size = 15 := rfl; have := HC.out; rw [h15]; omega) (by decide) (by have := HC.out; omega)).mono ?_
    rintro e' u' ⟨s', rfl, hz', hx'⟩
    exact hK _ _ _ (by first | rfl | (simp only [h2]; rfl)) ⟨s', rfl, hz'⟩ hx'
   ·intro vals W e hd ho K hK
    exact st_q hK (by go_simp; rfl)
   ·intro vals W e hd ho K hK
    have h4 : vals 4 = .pointer (some ⟨g, 3, none⟩) := hd 4 (by kernel_rfl)
    have cc := (HB.out.drew.ext e).cell 3
    simp at cc
    refine st_quiet (v := ?_) ?_ ?_
    rotate_left
    ·go_simp
     rfl
    exact hK _ _ _ rfl rfl (Ext.refl _)
   ·intro vals W e hd ho K hK
    have h5 : vals 5 = .int .i64 r.c := hd 5 (by kernel_rfl)
    go_wp2_with fail
    refine (picked_any r.c 1000 _ HI.out.2.2.2 (by omega) (by omega)).mono ?_
    rintro e' u' ⟨rfl, rfl⟩
    exact hK _ _ _ (by first | rfl | (simp only [h5]; rfl)) rfl (Ext.refl _)
   ·intro vals W e hd ho K hK
    have h6 : vals 6 = .int .i64 (pick r.c 1000) := hd 6 (by kernel_rfl)
    go_wp2_with fail
    refine (itoa_any (pick r.c 1000) _ (pick_range r.c 1000 (by decide)).1 (by have := pick_range r.c 1000 (by decide); omega) (HTAB.out.ext ((Ext.refl _).drew.trans e))).mono ?_
    rintro e' u' ⟨s', rfl, hz', hx'⟩
    exact hK _ _ _ (by first | rfl | (simp only [h6]; rfl)) ⟨s', rfl, hz'⟩ hx'
   ·intro vals W e hd ho K hK
    obtain ⟨s3, h3, z3⟩ := hd 3 (by kernel_rfl)
    obtain ⟨s7, h7, z7⟩ := hd 7 (by kernel_rfl)
    refine st_concat _ _ _ _ (s3) (s7) rfl h3 h7 (by omega) ?_
    exact hK _ _ _ rfl ⟨_, rfl, by rw [ByteArray.size_append]; omega⟩ (Ext.refl _)
   ·intro vals W e hd ho K hK
    obtain ⟨s8, h8, z8⟩ := hd 8 (by kernel_rfl)
    refine st_quiet (v := ?_) ?_ ?_
    rotate_left
    ·go_simp
     rfl
    exact hK _ _ _ rfl ⟨s8, (by first | exact rfl | exact h8), z8⟩ (Ext.refl _)
  intro vals W e hall
  obtain ⟨s9, h9, z9⟩ := hall 9 (by decide)
  have HXW := Lib.hid (HX.out.trans ((Ext.refl _).drew.trans e))
  clear hall e
  go_wp2_with fail
  go_ret
  exact ⟨s9, congrArg Ending.returned h9, by omega, HXW.out⟩

def encRw (x : Raw4) : List Value := [.int .i64 x.kind, .int .i64 x.a, .int .i64 x.b, .int .i64 x.c]
theorem encRw_ok : Enc 4 RRaw encRw := ⟨fun _ => rfl, fun _ _ _ h => h.1, fun _ _ _ _ h => h, fun _ u h => by simp [encRw] at h; rcases h with h | h | h | h <;> subst h <;> rfl⟩
structure HA where
 kind : Int
 d : Nat
 n : Int
 at_ : Int
 by_ : Int
def encHA (x : HA) : List Value := [.int .i64 x.kind, .slice none 0 0, .string .empty, .int .i64 (x.d : Int), .int .i64 x.n, .int .i64 x.at_, .int .i64 x.by_]

def swAll : Nat → Nat → List ByteArray → Nat → ByteArray → List ByteArray
 | 0, _, all, _, _ => all
 | m + 1, i, all, first, s => swAll m (i + 1) (all.set (first + i) (padS (chunk s i))) first s
theorem pl_sw (first : Nat) (s : ByteArray) : ∀ (m i : Nat) (all : List ByteArray) (n : Nat), first + i + m ≤ all.length → pl (swAll m i all first s) n = if first + i ≤ n ∧ n < first + i + m then padS (chunk s (n - first)) else pl all n
 | 0, i, all, n, _ => by rw [if_neg (by omega)]; rfl
 | m + 1, i, all, n, h => by
  show pl (swAll m (i + 1) (all.set (first + i) (padS (chunk s i))) first s) n = _
  rw [pl_sw first s m (i + 1) _ n (by rw [List.length_set]; omega)]
  by_cases h1 : first + (i + 1) ≤ n ∧ n < first + (i + 1) + m
  ·rw [if_pos h1, if_pos (by omega)]
  ·rw [if_neg h1]
   by_cases h2 : n = first + i
   ·subst h2
    rw [if_pos (by omega), pl_set_self (by omega), show first + i - first = i by omega]
   ·rw [if_neg (by omega), pl_set_ne _ (fun e => h2 e.symm)]
theorem lst_chunk (s : ByteArray) (j : Nat) : lst (chunk s j) = ((lst s).drop (24 * j)).take 24 := by
 unfold chunk
 rw [lst_extract]
 apply List.ext_getElem?
 intro i
 have hl := length_lst s
 unfold sub_
 simp only [List.getElem?_take, List.getElem?_drop]
 by_cases hi : 24 * j + i < (lst s).length
 ·by_cases h24 : i < 24
  ·first | (rw [if_pos (by omega), if_pos h24]) | (rw [if_pos h24, if_pos (by omega)])
  ·first | (rw [if_neg (by omega), if_neg h24]) | (rw [if_neg h24, if_neg (by omega)])
 ·have hn : (lst s)[24 * j + i]? = none := List.getElem?_eq_none (by omega)
  rw [hn]
  simp
theorem pad_chunk (s : ByteArray) (j : Nat) (hj : 24 * j < s.size) : (lst s).take (24 * j) ++ lst (padS (chunk s j)) = (lst s).take (24 * (j + 1)) ++ List.replicate (24 * (j + 1) - s.size) 0 := by
 have hc := lst_chunk s j
 have hl := length_lst s
 have hz : (chunk s j).size = min 24 (s.size - 24 * j) := by rw [← length_lst, hc, List.length_take, List.length_drop, hl]
 unfold padS
 rw [lst_bs, hc, ← List.append_assoc, hz]
 congr 1
 ·rw [show 24 * (j + 1) = 24 * j + 24 by omega, List.take_add]
 ·congr 1
  omega
theorem own_pair {w : World} {base : Nat} {E : TypeId} {g n c len : Nat} {vs : List (Value × Value)} (ho : w.ownsRow base E 2 (.slice (some ⟨g, 0, none⟩) n c) len (vs.flatMap pair)) (hl : vs.length = len) (i : Nat) (p : Value × Value) (hp : vs[i]? = some p) :
  w.cell? ⟨g, i * 2, none⟩ = some p.1 ∧ w.cell? ⟨g, i * 2 + 1, none⟩ = some p.2 := by
 obtain ⟨hi, hpe⟩ := List.getElem?_eq_some_iff.1 hp
 rcases ho.2 with ⟨hv, _⟩ | ⟨g', cap, cur, hv, hb, hg, hnc, _, hcs, htake⟩
 ·cases hv
 ·injection hv with h1 h2 h3
  injection h1 with h1
  injection h1 with h1
  subst h1
  have key : ∀ j, j < 2 → w.cell? ⟨g, i * 2 + j, none⟩ = (pair p)[j]? := by
   intro j hj
   rw [← hpe, ← flatMap_at pair_len vs i j hi hj, cell_of_row w g (i * 2 + j) cur E (0, 0) hg, ← htake, List.getElem?_take, if_pos (by omega)]
   simp
  exact ⟨key 0 (by decide), key 1 (by decide)⟩
theorem OArr.fill {E : TypeId} {w wr : World} {base g n c gL d : Nat} {a : List Dev} {dd : Dev} {x1 x2 : Value} (h : OArr E w base (.slice (some ⟨g, 0, none⟩) n c) a) (hd : d < a.length) (hg : w.grownBy wr (some gL)) (hgL : gL ≠ g)
  (hav : ∀ i, i < a.length → i ≠ d → ∀ y1 y2, w.cell? ⟨g, i * 2, none⟩ = some y1 → w.cell? ⟨g, i * 2 + 1, none⟩ = some y2 → Av gL y1 ∧ Av gL y2)
  (hc1 : w.cell? ⟨g, d * 2, none⟩ = some x1) (hc2 : w.cell? ⟨g, d * 2 + 1, none⟩ = some x2) (hdd : RDevG g wr [x1, x2] dd) : OArr E wr base (.slice (some ⟨g, 0, none⟩) n c) (a.set d dd) := by
 obtain ⟨vs, hl, ho, hr, hn⟩ := h
 refine ⟨vs, by simp [hl], ?_, ?_, hn⟩
 ·rw [List.length_set]
  exact own_grown ho hg (fun q hq e => by
   have h1 : q = g := by simpa [Value.ownBlock] using hq.symm
   injection e with e
   omega)
 ·intro g' hg' i hi p hp
  have hgg : g' = g := by simp [Value.ownBlock] at hg'; exact hg'.symm
  subst hgg
  rw [List.length_set] at hi
  obtain ⟨k1, k2⟩ := own_pair ho hl i p hp
  by_cases hid : i = d
  ·subst hid
   rw [k1] at hc1
   rw [k2] at hc2
   injection hc1 with hc1
   injection hc2 with hc2
   have : pair p = [x1, x2] := by unfold pair; rw [hc1, hc2]
   rw [this]
   simpa using hdd
  ·have hD := hr g' hg' i hi p hp
   obtain ⟨v1, v2⟩ := hav i hi hid _ _ k1 k2
   rw [List.getElem_set_ne (fun e => hid e.symm)]
   obtain ⟨A1, c1, A2, c2, e, hDD, r1, r2⟩ := hD
   refine ⟨A1, c1, A2, c2, e, hDD.grown hg (fun q hq => ?_), r1, r2⟩
   obtain rfl := Option.some.inj hq
   unfold pair at e
   simp only [List.cons.injEq, and_true] at e
   exact ⟨A1, c1, A2, c2, by unfold pair; rw [e.1, e.2], hDD, by rw [← e.1]; exact v1, by rw [← e.2]; exact v2⟩
theorem repl_state {a : List Dev} {d : Int} (h : arrMay a = false) : replaceS a d = ([], 9) := by unfold replaceS; rw [h]; rfl
theorem repl_range {a : List Dev} {d : Int} (h : arrMay a = true) (h2 : ¬ (0 ≤ d ∧ d ≤ 2)) : replaceS a d = ([], 2) := by
 unfold replaceS
 rw [h, show inB d 0 2 = false by simp [inB]; omega]
 rfl
theorem repl_ok {a : List Dev} {d : Nat} (h : arrMay a = true) (h2 : d < 3) : replaceS a d = (a.set d (lostDev (devAt (dv a 0).sec.length d)), 0) := by
 unfold replaceS devAt
 rw [h, show inB (d : Int) 0 2 = true by simp [inB]; omega]
 rfl
theorem fill_step (n k : Nat) (h : k < n) : (List.replicate k true ++ List.replicate (n - k) false).set k true = List.replicate (k + 1) true ++ List.replicate (n - (k + 1)) false := by
 apply List.ext_getElem?
 intro i
 simp only [List.getElem?_set, List.getElem?_append, List.getElem?_replicate, List.length_replicate, List.length_append]
 by_cases h1 : i < k
 ·have : ¬ k = i := by omega
  simp [h1, this, show i < k + 1 by omega]
 ·by_cases h2 : i = k
  ·subst h2
   simp [show i < i + (n - i) by omega]
  ·have : ¬ k = i := by omega
   simp only [this, if_false, h1, show ¬ i < k + 1 by omega]
   congr 1
   apply propext
   omega
theorem devAt_len (m : Nat) (d : Nat) (h : 16 ≤ m) : 0 < (devAt m d).lost.length ∧ (devAt m d).lost.length ≤ m ∧ (devAt m d).lost = List.replicate (devAt m d).lost.length false := by
 unfold devAt
 split
 ·refine ⟨?_, ?_, ?_⟩
  ·show 0 < (List.replicate (m / 2) false).length
   rw [List.length_replicate]; omega
  ·show (List.replicate (m / 2) false).length ≤ m
   rw [List.length_replicate]; omega
  ·show List.replicate (m / 2) false = List.replicate (List.replicate (m / 2) false).length false
   rw [List.length_replicate]
 ·refine ⟨?_, ?_, ?_⟩
  ·show 0 < (List.replicate m false).length
   rw [List.length_replicate]; omega
  ·show (List.replicate m false).length ≤ m
   rw [List.length_replicate]; omega
  ·show List.replicate m false = List.replicate (List.replicate m false).length false
   rw [List.length_replicate]
theorem grown_also {a b c : World} {row : Option Nat} (h : a.grownBy b row) (k : b.grownBy c row) : a.grownBy c row :=
 ⟨k.os.trans h.os, k.tape.trans h.tape, k.output.trans h.output, Nat.le_trans h.size k.size, fun g hg hne => (k.block g (Nat.lt_of_lt_of_le hg h.size) hne).trans (h.block g hg hne)⟩
theorem arrReplace_any (A : Option Addr) (c : Nat) (a : List Dev) (d0 : Int) (w : World) (h : RArr w [.slice A a.length c] a) (hd : I64 d0) :
  Calls Tryz.prog 101 #[.agg #[.slice A a.length c], .int .i64 d0] w fun e w' => ∃ A' c', e = .returned (.tuple #[.agg #[.slice A' (replaceS a d0).1.length c'], .int .i64 (replaceS a d0).2]) ∧ Ext w w' ∧ OArr 68 w' w.heap.size (.slice A' (replaceS a d0).1.length c') (replaceS a d0).1 := by
 have HH := Lib.hid h
 obtain ⟨hd1, hd2⟩ := hd
 clear h
 go_enter Tryz.func101, Tryz.ntmps101
 go_wp2_with fail
 refine calls_abs (fun W => Ext w W ∧ Blk_ W w.heap.size 30 #[.slice A a.length c] ∧ Blk_ W (w.heap.size + 1) 30 #[.slice none 0 0]) ⟨((Ext.refl _).alloc _).alloc _, (Blk_.new _ _ _).alloc _, Blk_.new1 _ _ _ _⟩ ?_
 rintro w1 ⟨hx1, hb2, hb4⟩
 obtain ⟨b2, hh2⟩ : ∃ b2, b2 = w.heap.size := ⟨_, rfl⟩
 rw [← hh2] at hb2 hb4 ⊢
 refine (arrCheck_any [.slice A a.length c] a w1 (HH.out.up hx1)).mono ?_
 rintro e w2 ⟨rfl, hx2⟩
 have H2 := Lib.hid hh2
 have HX2 := Lib.hid (hx1.trans hx2)
 have HB2 := Lib.hid (hb2.ext hx2)
 have HB4 := Lib.hid (hb4.ext hx2)
 have HR2 := Lib.hid (HH.out.up (hx1.trans hx2))
 clear hx1 hx2 hb2 hb4 hh2
 by_cases hmay : arrMay a = true
 ·rw [arrCode_true hmay]
  by_cases hrg : 0 ≤ d0 ∧ d0 ≤ 2
  ·obtain ⟨d, rfl⟩ := Int.eq_ofNat_of_zero_le hrg.1
   have hd3 : (d : Int) < 3 := by omega
   obtain ⟨h3, _, _, _, g1, g2, g3, _, _⟩ := arr_parts hmay
   obtain ⟨m, hm⟩ : ∃ m, m = (dv a 0).sec.length := ⟨_, rfl⟩
   rw [← hm] at g1 g2 g3
   obtain ⟨dd, hdd⟩ : ∃ dd, dd = devAt m d := ⟨_, rfl⟩
   have HDD := Lib.hid hdd.symm
   have HRP := Lib.hid (show replaceS a d = (a.set d (lostDev dd), 0) by rw [repl_ok hmay (by omega), ← hm, hdd])
   have HL3 := Lib.hid h3
   have HMM := Lib.hid hm
   have HM := Lib.hid (show 16 ≤ m ∧ m ≤ 64 ∧ d < 3 by omega)
   obtain ⟨l1, l2, l3⟩ := devAt_len m d g1
   rw [← hdd] at l1 l2 l3
   have HLL := Lib.hid (And.intro l1 (And.intro l2 l3))
   have hm64 : (m : Int) ≤ 64 := by omega
   have hll : (dd.lost.length : Int) ≤ 64 := by omega
   rw [h3]
   rw [h3] at HR2 HB2
   have f2 := HB2.out.cell 0
   simp at f2
   have z2 := HB2.out.frozen 0
   have l2' := HB2.out.lt
   clear h3 g1 g2 g3 hm hdd l1 l2 l3 hrg hmay hd1 hd2
   go_wp2_with fail
   refine (arrCopy_any [.slice A 3 c] a w2 HR2.out).mono ?_
   rintro e w3 ⟨A3, c3, rfl, hx3, ho3⟩
   have h3 := HL3.out
   rw [h3] at ho3 ⊢
   obtain ⟨g, rfl, hgb, hgl, hgf, hgc⟩ := ho3.at_ h3
   have HX3 := Lib.hid (HX2.out.trans hx3)
   have HO3 := Lib.hid ho3
   have HB23 := Lib.hid (HB2.out.ext hx3)
   have HB43 := Lib.hid (HB4.out.ext hx3)
   have HGB := Lib.hid (show b2 < w2.heap.size ∧ b2 + 1 < w2.heap.size ∧ w2.heap.size ≤ g ∧ w2.heap.size ≤ w3.heap.size from ⟨HB2.out.lt, HB4.out.lt, hgb, hx3.size⟩)
   have f3 := (HB2.out.ext hx3).cell 0
   simp at f3
   have z3 := (HB2.out.ext hx3).frozen 0
   have l3' := (HB2.out.ext hx3).lt
   clear f2 z2 l2' hx3 ho3 hgb hgl hgf hgc h3 HX2 HB2 HB4 HR2
   go_wp2_with fail
   refine wp_abs (fun W => Ext w W ∧ Blk_ W b2 30 #[.slice (some ⟨g, 0, none⟩) 3 c3] ∧ Blk_ W (b2 + 1) 30 #[.slice none 0 0] ∧ OArr 68 W w2.heap.size (.slice (some ⟨g, 0, none⟩) 3 c3) a ∧ w3.heap.size ≤ W.heap.size) ⟨HX3.out.setCell (by have := H2.out; dsimp only; omega) _, HB23.out.set 0 _, HB43.out.far (by dsimp only; omega) _, HO3.out.far (by have := HGB.out; dsimp only; omega) _, by simp⟩ ?_
   rintro w4 ⟨hx4, hb24, hb44, ho4, hs4⟩
   obtain ⟨_, hgl, hgf, hgc⟩ := ho4.atg HL3.out
   obtain ⟨A0, c0, B0, e0, q0, q1, hd0⟩ := hgc 0 (by decide)
   rw [← HMM.out] at q0
   simp at q0 q1
   have HX4 := Lib.hid hx4
   have HB24 := Lib.hid hb24
   have HB44 := Lib.hid hb44
   have HO4 := Lib.hid ho4
   have HS4 := Lib.hid hs4
   have HGL := Lib.hid hgl
   have HQ2 := Lib.hid (show w4.cell? ⟨b2, 0, none⟩ = some (.slice (some ⟨g, 0, none⟩) 3 c3) by have := hb24.cell 0; simpa using this)
   have HQ0 := Lib.hid q0
   obtain ⟨N0, hN0⟩ : ∃ N, N = w4.heap.size := ⟨_, rfl⟩
   have HN0 := Lib.hid hN0
   clear hx4 hb24 hb44 ho4 hs4 hgl hgf hgc q0 q1 hd0 HX3 HO3 HB23 HB43 f3 z3 l3' hN0
   refine wp_region_all (S := fun W' => W'.cell? ⟨b2, 0, none⟩ = some (.slice (some ⟨g, 0, none⟩) 3 c3)) (by kernel_rfl) ?_
   have hS0 : (fun W' => W'.cell? ⟨b2, 0, none⟩ = some (.slice (some ⟨g, 0, none⟩) 3 c3)) w4.drew := HQ2.out
   refine tkL 0 rfl (fun w' hS => by (try dsimp only at hS); go_simp; rfl) hS0 ?_
   refine tkL 1 rfl (fun w' hS => by (try dsimp only at hS); go_simp; rfl) hS0 ?_
   refine tkL 2 rfl (fun w' hS => by (try dsimp only at hS); go_simp; rfl) hS0 ?_
   try simp only [Act.put, List.setIfInBounds_toArray, List.set_cons_zero, List.set_cons_succ]
   refine tkL 3 rfl (fun w' hS => by (try dsimp only at hS); go_simp; rfl) hS0 ?_
   refine tkL 4 rfl (fun w' hS => by (try dsimp only at hS); go_simp; rfl) hS0 ?_
   refine tkL 5 rfl (fun w' hS => by (try dsimp only at hS); go_simp; rfl) hS0 ?_
   try simp only [Act.put, List.setIfInBounds_toArray, List.set_cons_zero, List.set_cons_succ]
   refine tkL 6 rfl (fun w' hS => by (try dsimp only at hS); go_simp; rfl) hS0 ?_
   refine tkL 9 rfl (fun w' hS => by (try dsimp only at hS); go_simp; rfl) hS0 ?_
   try simp only [Act.put, List.setIfInBounds_toArray, List.set_cons_zero, List.set_cons_succ]
   have cq0 : w4.drew.cell? ⟨g, 0, none⟩ = some (.slice A0 m c0) := HQ0.out
   refine wpAnyH_oneL (i := 7) rfl (by kernel_rfl) rfl (fun K hK => ?_)
   go_wp2_with fail
   refine hK _ _ hS0 ?_
   clear hK K cq0
   refine tkL 8 rfl (fun w' hS => by (try dsimp only at hS); go_simp; rfl) hS0 ?_
   try simp only [Act.put, List.setIfInBounds_toArray, List.set_cons_zero, List.set_cons_succ]
   refine wpAnyH_oneL (i := 10) rfl (by kernel_rfl) rfl (fun K hK => ?_)
   go_wp2_with fail
   refine (arrFresh_any m (d : Int) _ HM.out.1 HM.out.2.1 ⟨by omega, by have := HM.out; omega⟩).mono ?_
   rintro e W' ⟨X1, x1, X2, x2, rfl, hx', o12⟩
   rw [HDD.out] at o12 ⊢
   have hxx : Ext w4 W' := (Ext.refl _).drew.trans hx'
   have hS2 : (fun W' => W'.cell? ⟨b2, 0, none⟩ = some (.slice (some ⟨g, 0, none⟩) 3 c3)) W' := hxx.cell HQ2.out
   refine hK _ _ hS2 ?_
   clear hK K hx' hS0
   refine tkL 11 rfl (fun w' hS => by (try dsimp only at hS); go_simp; rfl) hS2 ?_
   refine tkL 12 rfl (fun w' hS => by (try dsimp only at hS); go_simp; rfl) hS2 ?_
   refine tkL 13 rfl (fun w' hS => by (try dsimp only at hS); go_simp; rfl) hS2 ?_
   try simp only [Act.put, List.setIfInBounds_toArray, List.set_cons_zero, List.set_cons_succ]
   refine tkL 14 rfl (fun w' hS => by (try dsimp only at hS); go_simp; rfl) hS2 ?_
   try simp only [Act.put, List.setIfInBounds_toArray, List.set_cons_zero, List.set_cons_succ]
   have hN4' : N0 = w4.heap.size := HN0.out
   have o12 := o12.base (base' := N0) (by rw [hN4']; exact Nat.le_refl _)
   obtain ⟨gL, rfl, hNL, hLl, hLf⟩ := own_form o12.2.1 HLL.out.1
   have hrow := HO4.out.ext hxx
   obtain ⟨_, hgl5, hgf5, hgc5⟩ := hrow.atg HL3.out
   obtain ⟨_, _, _, _, m0, m1, _⟩ := hgc5 d HM.out.2.2
   have z0 := hgf5 (d * 2)
   have z1 := hgf5 (d * 2 + 1)
   have hN4 : N0 = w4.heap.size := HN0.out
   have hgn : g < N0 := by rw [hN4]; exact HGL.out
   have hnew := o12.dev.newG o12.new1 o12.new2 hgn
   have hset := hrow.set (i := d) (by rw [HL3.out]; exact HM.out.2.2) hnew (o12.new1.mono (by have := HGB.out; have := HS4.out; omega)) (o12.new2.mono (by have := HGB.out; have := HS4.out; omega))
   have hgg := HGB.out
   have hs4 := HS4.out
   have hh2 := H2.out
   have HAV := Lib.hid (show ∀ i, i < (a.set d dd).length → i ≠ d → ∀ y1 y2, (((W'.setCell ⟨g, d * 2, none⟩ (.slice X1 dd.sec.length x1)).setCell ⟨g, d * 2 + 1, none⟩ (.slice (some ⟨gL, 0, none⟩) dd.lost.length x2))).cell? ⟨g, i * 2, none⟩ = some y1 →
     (((W'.setCell ⟨g, d * 2, none⟩ (.slice X1 dd.sec.length x1)).setCell ⟨g, d * 2 + 1, none⟩ (.slice (some ⟨gL, 0, none⟩) dd.lost.length x2))).cell? ⟨g, i * 2 + 1, none⟩ = some y2 → Av gL y1 ∧ Av gL y2 from by
    intro i hi hne y1 y2 hy1 hy2
    rw [List.length_set, HL3.out] at hi
    obtain ⟨_, _, _, hgc4⟩ := HO4.out.atg HL3.out
    obtain ⟨A1, c1, A2, c2, p0, p1, hdv⟩ := hgc4 i hi
    rw [World.cell?_setCell_other _ _ _ _ (by first | (simp; done) | (simp; omega)), World.cell?_setCell_other _ _ _ _ (by first | (simp; done) | (simp; omega)), hxx.cell p0] at hy1
    rw [World.cell?_setCell_other _ _ _ _ (by first | (simp; done) | (simp; omega)), World.cell?_setCell_other _ _ _ _ (by first | (simp; done) | (simp; omega)), hxx.cell p1] at hy2
    injection hy1 with hy1
    injection hy2 with hy2
    subst hy1 hy2
    obtain ⟨B1, k1, B2, k2, e', _, r1, r2⟩ := hdv.old (g := gL) (by omega)
    simp only [List.cons.injEq, and_true] at e'
    rw [e'.1, e'.2]
    exact ⟨r1, r2⟩)
   have c1' := World.cell?_setCell_same _ _ (.slice X1 dd.sec.length x1) m0
   have c2' := World.cell?_setCell_same _ _ (.slice (some ⟨gL, 0, none⟩) dd.lost.length x2) ((World.cell?_setCell_other _ ⟨g, d * 2, none⟩ ⟨g, d * 2 + 1, none⟩ (.slice X1 dd.sec.length x1) (by simp)).trans m1)
   have c1'' := (World.cell?_setCell_other _ ⟨g, d * 2 + 1, none⟩ ⟨g, d * 2, none⟩ (.slice (some ⟨gL, 0, none⟩) dd.lost.length x2) (by simp)).trans c1'
   have HC1 := Lib.hid c1''
   have HC2 := Lib.hid c2'
   have HSET := Lib.hid hset
   have HNEW := Lib.hid (And.intro o12.new1 o12.new2)
   have HOD := Lib.hid ((o12.far (p := ⟨g, d * 2, none⟩) (by dsimp only; omega) (.slice X1 dd.sec.length x1)).far (p := ⟨g, d * 2 + 1, none⟩) (by dsimp only; omega) (.slice (some ⟨gL, 0, none⟩) dd.lost.length x2))
   have HB29 := Lib.hid (((HB24.out.ext hxx).far (p := ⟨g, d * 2, none⟩) (by dsimp only; omega) (.slice X1 dd.sec.length x1)).far (p := ⟨g, d * 2 + 1, none⟩) (by dsimp only; omega) (.slice (some ⟨gL, 0, none⟩) dd.lost.length x2))
   have HB49 := Lib.hid (((HB44.out.ext hxx).far (p := ⟨g, d * 2, none⟩) (by dsimp only; omega) (.slice X1 dd.sec.length x1)).far (p := ⟨g, d * 2 + 1, none⟩) (by dsimp only; omega) (.slice (some ⟨gL, 0, none⟩) dd.lost.length x2))
   have HX9 := Lib.hid (((HX4.out.trans hxx).setCell (p := ⟨g, d * 2, none⟩) (by dsimp only; omega) (.slice X1 dd.sec.length x1)).setCell (p := ⟨g, d * 2 + 1, none⟩) (by dsimp only; omega) (.slice (some ⟨gL, 0, none⟩) dd.lost.length x2))
   have HGL9 := Lib.hid (show N0 ≤ gL ∧ g < N0 ∧ b2 + 1 < N0 from ⟨hNL, hgn, by omega⟩)
   have b29 := HB29.out.cell 0
   simp at b29
   have hS4 : (fun W' => W'.cell? ⟨b2, 0, none⟩ = some (.slice (some ⟨g, 0, none⟩) 3 c3)) ((W'.setCell ⟨g, d * 2, none⟩ (.slice X1 dd.sec.length x1)).setCell ⟨g, d * 2 + 1, none⟩ (.slice (some ⟨gL, 0, none⟩) dd.lost.length x2)) := b29
   refine wpAnyH_oneL (i := 15) rfl (by kernel_rfl) rfl (fun K hK => ?_)
   clear hN4' hS2 o12 hxx hNL hLl hLf hrow hgl5 hgf5 hgc5 hnew hset hN4 hgn hgg hs4 hh2
   go_wp2_with fail
   refine hK _ _ hS4 ?_
   clear hK K
   refine wpAnyH_done (by kernel_rfl) ?_ _
   go_wp2_with fail
   clear hS4
   obtain ⟨w9, hw9⟩ : ∃ w9, w9 = ((W'.setCell ⟨g, d * 2, none⟩ (.slice X1 dd.sec.length x1)).setCell ⟨g, d * 2 + 1, none⟩ (.slice (some ⟨gL, 0, none⟩) dd.lost.length x2)) := ⟨_, rfl⟩
   rw [← hw9] at HAV HC1 HC2 HSET HOD HB29 HB49 HX9 ⊢
   clear hw9 b29 m0 m1 z0 z1 c1' c2' c1''
   go_loopw [45] (fun kv wr => ∃ (k : Nat), kv = .int .i64 k ∧ k ≤ dd.lost.length ∧ w9.grownBy wr (some gL) ∧ ODev 9 4 wr N0 (.slice X1 dd.sec.length x1) (.slice (some ⟨gL, 0, none⟩) dd.lost.length x2) ⟨dd.sec, List.replicate k true ++ List.replicate (dd.lost.length - k) false⟩) (fun kv _ => dd.lost.length - (intOf kv).toNat)
   case atStart => exact ⟨0, rfl, Nat.zero_le _, World.grownBy.refl _ _, by rw [List.replicate_zero, List.nil_append, Nat.sub_zero, ← HLL.out.2.2]; exact HOD.out⟩
   case round =>
    obtain ⟨k, rfl, hk, hgr, hod⟩ := hrel
    have hgg := HGB.out
    have hg9 := HGL9.out
    have b2c := hgr.cell (a := ⟨b2, 0, none⟩) (v := .slice (some ⟨g, 0, none⟩) 3 c3) (by have := HB29.out.cell 0; simpa using this) (by intro e; injection e with e; dsimp only at e; omega)
    have r1c := hgr.cell HC1.out (by intro e; injection e with e; dsimp only at e; omega)
    have r2c := hgr.cell HC2.out (by intro e; injection e with e; dsimp only at e; omega)
    have HGR := Lib.hid hgr
    have HOK := Lib.hid hod
    by_cases hlt : k < dd.lost.length
    ·have hki : (k : Int) < (dd.lost.length : Int) := by omega
     have hll2 : (List.replicate k true ++ List.replicate (dd.lost.length - k) false).length = dd.lost.length := by simp; omega
     have h22 := hod.2.1
     simp only at h22
     rw [hll2] at h22
     obtain ⟨bv, ck⟩ : ∃ bv, wr.cell? ⟨gL, k, none⟩ = some (.bool bv) := ⟨_, (h22.cellAt k (by omega)).trans (flat_bool_get _ k (by rw [hll2]; exact hlt))⟩
     have zk := h22.frozenAt k
     have HK := Lib.hid (And.intro hlt hll2)
     clear hgr hod h22 hlt hll2 hk hgg hg9
     go_wp2_with fail
     go_roundw
     case rel =>
      refine ⟨k + 1, by first | rfl | go_num, by have := HK.out; omega, grown_also HGR.out (setRow_by _ gL k (.bool true)), ?_⟩
      have := HOK.out.setLost (by simp only; rw [HK.out.2]) (by decide) k true
      simp only at this
      rw [fill_step _ _ HK.out.1] at this
      exact this
     case measure => have := HK.out; (simp [intOf]; try omega)
    ·obtain rfl : k = dd.lost.length := by omega
     have b4c := hgr.cell (a := ⟨b2 + 1, 0, none⟩) (v := .slice none 0 0) (by have := HB49.out.cell 0; simpa using this) (by intro e; injection e with e; dsimp only at e; omega)
     have hb4r : Blk_ wr (b2 + 1) 30 #[.slice none 0 0] := HB49.out.grown hgr (fun q hq => by obtain rfl := Option.some.inj hq; omega)
     have z4 := hb4r.frozen 0
     have HB4R := Lib.hid (hb4r.set 0 (.slice (some ⟨g, 0, none⟩) 3 c3))
     have hdv : RDev wr [.slice X1 dd.sec.length x1, .slice (some ⟨gL, 0, none⟩) dd.lost.length x2] (lostDev dd) := by
      have := hod.dev
      rw [Nat.sub_self, List.replicate_zero, List.append_nil] at this
      exact this
     have hfill := HSET.out.fill (by rw [List.length_set, HL3.out]; exact HM.out.2.2) hgr (by omega) HAV.out HC1.out HC2.out (hdv.newG HNEW.out.1 HNEW.out.2 hg9.2.1)
     rw [List.set_set] at hfill
     have HFILL := Lib.hid hfill
     have HXF := Lib.hid (HX9.out.grown hgr (fun q hq => by obtain rfl := Option.some.inj hq; have := HX4.out.size; have := HN0.out; omega))
     clear hgr hod hb4r hdv hfill hlt hk hgg hg9 r1c r2c
     go_wp2_with fail
     refine bodyPost_ret (res_cell_tmp rfl rfl HB4R.out Tryz.underlying30 rfl (by kernel_rfl)) rfl ?_
     rw [HRP.out]
     refine ⟨some ⟨g, 0, none⟩, c3, ?_, HXF.out.setCell (by have := H2.out; dsimp only; omega) _, ?_⟩
     ·rw [List.length_set, HL3.out]; rfl
     ·have h5 := (HFILL.out.far (p := ⟨b2 + 1, 0, none⟩) HGB.out.2.1 (.slice (some ⟨g, 0, none⟩) 3 c3)).base (base' := w.heap.size) (by have := HGB.out; have := H2.out; omega)
      simp only
      rw [List.length_set, HL3.out]
      exact h5
  ·have HRP := Lib.hid (repl_range hmay hrg)
   have b4c := HB4.out.cell 0
   have z4 := HB4.out.frozen 0
   simp at b4c
   have HB4R := Lib.hid (HB4.out.set 0 (.slice none 0 0))
   have hcs : (decide (d0 < 0) = true) ∨ (decide (d0 < 0) = false ∧ (3 : Int) ≤ d0) := by
    by_cases hn : d0 < 0
    ·exact .inl (decide_eq_true hn)
    ·exact .inr ⟨decide_eq_false hn, by omega⟩
   clear hrg hmay
   rcases hcs with t1 | ⟨t1, t2⟩
   ·go_wp2_with fail
    refine bodyPost_ret (res_cell_tmp rfl rfl HB4R.out Tryz.underlying30 rfl (by kernel_rfl)) rfl ?_
    rw [HRP.out]
    exact ⟨none, 0, rfl, HX2.out.setCell (by have := H2.out; dsimp only; omega) _, OArr.nil _ _ _⟩
   ·go_wp2_with fail
    refine bodyPost_ret (res_cell_tmp rfl rfl HB4R.out Tryz.underlying30 rfl (by kernel_rfl)) rfl ?_
    rw [HRP.out]
    exact ⟨none, 0, rfl, HX2.out.setCell (by have := H2.out; dsimp only; omega) _, OArr.nil _ _ _⟩
 ·have hmf : arrMay a = false := by simpa using hmay
  rw [arrCode_false hmf]
  have HRP := Lib.hid (repl_state (d := d0) hmf)
  have b4c := HB4.out.cell 0
  have z4 := HB4.out.frozen 0
  simp at b4c
  have HB4R := Lib.hid (HB4.out.set 0 (.slice none 0 0))
  clear hmay hmf
  go_wp2_with fail
  refine bodyPost_ret (res_cell_tmp rfl rfl HB4R.out Tryz.underlying30 rfl (by kernel_rfl)) rfl ?_
  rw [HRP.out]
  exact ⟨none, 0, rfl, HX2.out.setCell (by have := H2.out; dsimp only; omega) _, OArr.nil _ _ _⟩
def turned (l : List HA) : List Int := (l.filter fun x => decide (x.kind = 5)).map (·.n)
theorem turned_snoc (l : List HA) (x : HA) : turned (l ++ [x]) = turned l ++ (if x.kind = 5 then [x.n] else []) := by
 unfold turned
 rw [List.filter_append, List.map_append]
 congr 1
 by_cases h : x.kind = 5
 ·simp [h]
 ·simp [h]
theorem turned_cons (l : List HA) (x : HA) : turned (x :: l) = (if x.kind = 5 then [x.n] else []) ++ turned l := by
 unfold turned
 by_cases h : x.kind = 5
 ·simp [h]
 ·simp [h]
def ActOk (k sz : Nat) (x : HA) : Prop := x.d = k ∧ (x.kind = 4 ∨ x.kind = 5 ∨ x.kind = 6) ∧ 0 ≤ x.n ∧ x.n < sz ∧ 0 ≤ x.at_ ∧ x.at_ ≤ 29 ∧ 0 ≤ x.by_ ∧ x.by_ ≤ 255
def DInv (d : Dev) (sz : Nat) (no : Nat → Int) (ex : Nat → ByteArray) (T : List Int) : Prop :=
 devMay d = true ∧ d.sec.length = sz ∧ ∀ n : Nat, n < sz → d.lost.getD n false = true ∨ ((n : Int) ∉ T ∧ Sound d n (no n) (ex n)) ∨
  ((n : Int) ∈ T ∧ d.lost.getD n false = false ∧ ∃ p b : Int, 0 ≤ p ∧ p ≤ 29 ∧ 0 ≤ b ∧ b ≤ 255 ∧ d.sec.getD n .empty = turnB (encodeS (no n) (ex n)).1 p b)
theorem turnB_zero (s : ByteArray) (p : Int) (h0 : 0 ≤ p) (h1 : p < s.size) : turnB s p 0 = s := by
 unfold turnB
 have hb := u8_bd (at_ s p.toNat)
 rw [Int.add_zero, Int.emod_eq_of_lt hb.1 hb.2, byte_u8]
 have hl : p.toNat < (lst s).length := by rw [length_lst]; omega
 have : (lst s).set p.toNat (at_ s p.toNat) = lst s := by
  apply List.ext_getElem?
  intro i
  rw [List.getElem?_set]
  split
  ·rename_i hi
   subst hi
   rw [at_lst, List.getD_eq_getElem?_getD, List.getElem?_eq_getElem hl]
   rfl
  ·rfl
 rw [this, bs_lst]
theorem lost_inv {d : Dev} (hm : devMay d = true) (no : Nat → Int) (ex : Nat → ByteArray) (T : List Int) : DInv (lostDev d) d.sec.length no ex T := by
 obtain ⟨m1, m2, m3, _⟩ := devMay_len hm
 refine ⟨devMay_lost hm _ (by simp), rfl, fun n hn => ?_⟩
 left
 show (List.replicate d.lost.length true).getD n false = true
 rw [List.getD_eq_getElem?_getD, List.getElem?_replicate, if_pos (by omega)]
 rfl
theorem dv_set (a : List Dev) {k : Nat} (h : k < a.length) (d : Dev) (j : Nat) : dv (a.set k d) j = if j = k then d else dv a j := by
 by_cases hj : j = k
 ·subst hj; rw [if_pos rfl, dv_set_self h]
 ·rw [if_neg hj, dv_set_ne _ (fun e => hj e.symm)]
theorem devAt_may {m : Nat} (h16 : 16 ≤ m) (h64 : m ≤ 64) (k : Nat) : devMay (devAt m k) = true := by
 unfold devAt
 split
 ·exact fresh_may _ _ (by omega) (by omega) (by omega) (by omega)
 ·exact fresh_may _ _ (by omega) (by omega) (by omega) (by omega)
theorem Good.devAt_len {a : List Dev} {m : Nat} (h : Good a m) {k : Nat} (hk : k < 3) : (devAt m k).sec.length = (dv a k).sec.length := by
 match k, hk with
 | 0, _ => rw [h.l0]; exact fresh_len _ _
 | 1, _ => rw [h.l1]; exact fresh_len _ _
 | 2, _ => rw [h.l2]; exact fresh_len _ _
def noOf (k n : Nat) : Int := if k = 2 then 512 + n else n
def exOf (all : List ByteArray) (k n : Nat) : ByteArray := if k = 2 then pp all n else pl all n

end Go.Proofs.YtgjijcgkmofaaaaGreatDoor
