/-
  arraskeep.Data: bytes made of raw numbers: some text of at most 200 bytes. Conditions: the table of powers of ten that the library reads is in place.
-/
import Derived.Test.YtgjijcgkmofaaaaGreatDoorK17
import Derived.Lib.ItoaLen
import Derived.Laws.CopyRow
import Derived.Lib.SlBuf
namespace Go.Proofs.YtgjijcgkmofaaaaGreatDoor
set_option linter.unusedSimpArgs false
set_option linter.unusedVariables false
open Go.RowKit

/-- The library's table of powers of ten is in place. -/
def Tab (w : World) : Prop := Lib.TabIs Tryz.prog w "internal/strconv.uint64pow10" .u64 Lib.pow10Tab
theorem Tab.ext {w w' : World} (h : Tab w) (k : Ext w w') : Tab w' := by
  unfold Tab Lib.TabIs World.var? at *
  cases hg : Tryz.prog.globalNamed "internal/strconv.uint64pow10" with
  | none => rw [hg] at h; exact absurd h (by simp)
  | some g =>
    rw [hg] at h
    simp only [Option.bind_some] at h ⊢
    have hlt : g < w.heap.size := by
      cases hh : w.heap[g]? with
      | none => rw [hh] at h; exact absurd h (by simp)
      | some o => exact (Array.getElem?_eq_some_iff.1 hh).1
    rw [show w'.heap[g]? = w.heap[g]? from k.below.block g hlt]
    exact h
theorem itoa_any (n : Int) (w : World) (h0 : 0 ≤ n) (h1 : n ≤ 1000) (ht : Tab w) :
    Calls Tryz.prog 43 #[.int .i64 n] w fun e w' => ∃ s : ByteArray, e = .returned (.string s) ∧ s.size ≤ 21 ∧ Ext w w' := by
  refine (Tryz.strconv_Itoa n (by omega) (by omega) w ht).mono ?_
  rintro e w' ⟨rfl, k, os, rfl⟩
  refine ⟨_, rfl, ?_, ?_⟩
  · have := Lib.itoa_length_le n (by omega) (by omega)
    show (Lib.itoa n).toArray.size ≤ 21
    simpa using this
  · refine ⟨rfl, rfl, rfl, ?_, fun b hb => ?_⟩
    · show w.heap.size ≤ (w.heap ++ os).size
      rw [Array.size_append]; omega
    · show (w.heap ++ os)[b]? = w.heap[b]?
      exact Array.getElem?_append_left hb
theorem repeatL_length (l : List UInt8) (n : Nat) : (Lib.repeatL l n).length = l.length * n := by
  induction n with
  | zero => rfl
  | succ n ih => unfold Lib.repeatL; rw [List.length_append, ih, Nat.mul_succ]; omega
theorem rep_any (s : ByteArray) (c : Nat) (w : World) (B : Nat) (h : s.size * c ≤ B) (hB : B ≤ 1000) (hc : c ≤ 1000) :
    Calls Tryz.prog 56 #[.string s, .int .i64 c] w fun e w' => ∃ t : ByteArray, e = .returned (.string t) ∧ t.size ≤ B ∧ Ext w w' := by
  refine (Tryz.strings_Repeat s c w (by omega) (by omega)).mono ?_
  rintro e w' ⟨rfl, hx⟩
  refine ⟨_, rfl, ?_, hx⟩
  show (Lib.repeatL s.data.toList c).toArray.size ≤ B
  have := repeatL_length s.data.toList c
  have h2 : s.data.toList.length = s.size := length_lst s
  rw [h2] at this
  simpa [this] using h
theorem info_byte0 : (Tryz.prog.info? 5).map (fun i => (i.zero, i.size, i.bytes)) = some (some (.int .u8 0), 1, 1) := by kernel_rfl
theorem zero_bytes (n : Nat) : ∀ i, i < n → ((List.replicate n (0 : UInt8)).getD i 0).toNat = 0 := by
  intro i hi
  rw [List.getD_eq_getElem?_getD, List.getElem?_replicate, if_pos hi]; rfl
theorem Buf.zeros (e : TypeId) (w : World) (cs : Array Value) (n : Nat) (hc : cs.toList = List.replicate n (.int .u8 0)) : Buf e (w.alloc (.cells cs e)) w.heap.size (List.replicate n 0) := by
  refine ⟨cs, (0, 0), heap_alloc_new w _, fun i hi => ?_, fun i hi => by simp⟩
  rw [List.length_replicate] at hi
  have := zero_bytes n i hi
  rw [this, ← Array.getElem?_toList, hc, List.getElem?_replicate, if_pos hi]
  rfl
set_option maxRecDepth 100000 in
set_option maxHeartbeats 4000000 in
theorem data_any (r : Raw4) (w : World) (hi : I64 r.kind ∧ I64 r.a ∧ I64 r.b ∧ I64 r.c) (ht : Tab w) :
    Calls Tryz.prog 44 #[.agg #[.int .i64 r.kind, .int .i64 r.a, .int .i64 r.b, .int .i64 r.c]] w fun e w' => ∃ s : ByteArray, e = .returned (.string s) ∧ s.size ≤ 200 ∧ Ext w w' := by
  have HI := Lib.hid hi
  have HTAB0 := Lib.hid ht
  clear hi ht
  go_enter Tryz.func44, Tryz.ntmps44
  go_wp2_with fail
  refine calls_abs (fun W => Ext w W ∧ Blk_ W w.heap.size 82 #[.int .i64 r.kind, .int .i64 r.a, .int .i64 r.b, .int .i64 r.c]) ⟨(Ext.refl _).alloc _, Blk_.new _ _ _⟩ ?_
  rintro w1 ⟨hx1, hb1⟩
  have HB := Lib.hid hb1
  have HX := Lib.hid hx1
  have HTAB := Lib.hid (HTAB0.out.ext hx1)
  have hg := hb1.lt
  obtain ⟨g, hgg⟩ : ∃ g, g = w.heap.size := ⟨_, rfl⟩
  rw [← hgg] at HB hg ⊢
  clear hx1 hb1 hgg HTAB0
  refine (picked_any r.a 30 w1 HI.out.2.1 (by omega) (by omega)).mono ?_
  rintro e w2 ⟨rfl, hw⟩
  obtain rfl := hw.symm
  have hm := pick_range r.a 30 (by decide)
  obtain ⟨n, hn⟩ := Int.eq_ofNat_of_zero_le hm.1
  rw [hn] at hm ⊢
  have HN := Lib.hid (show n < 30 by omega)
  have hn30 : (n : Int) < 30 := by omega
  clear hm hn
  have f0 := HB.out.cell 0
  have f1 := HB.out.cell 1
  have f2 := HB.out.cell 2
  have f3 := HB.out.cell 3
  simp at f0 f1 f2 f3
  go_wp2_with fail
  refine (picked_any r.kind 5 w1 HI.out.1 (by omega) (by omega)).mono ?_
  rintro e w2 ⟨rfl, hw⟩
  obtain rfl := hw.symm
  have hm := pick_range r.kind 5 (by decide)
  obtain ⟨kd, hkd⟩ : ∃ kd, kd = pick r.kind 5 := ⟨_, rfl⟩
  rw [← hkd] at hm ⊢
  clear hkd
  have hcs : kd = 0 ∨ kd = 1 ∨ kd = 2 ∨ kd = 3 ∨ kd = 4 := by omega
  clear hm
  rcases hcs with rfl | rfl | rfl | rfl | rfl
  · clear f0 f1 f2 f3
    go_wp2_with fail
    refine (rep_any (⟨#[97, 98]⟩) n w1 58 (by have h2 : ((⟨#[97, 98]⟩) : ByteArray).size = 2 := rfl; have := HN.out; rw [h2]; omega) (by decide) (by have := HN.out; omega)).mono ?_
    rintro e w2 ⟨s, rfl, hz, hx⟩
    go_wp2_with fail
    go_ret
    exact ⟨s, rfl, by omega, HX.out.trans hx⟩
  · clear f0 f1 f2 f3
    go_wp2_with fail
    refine wp_region_vals (F := ?_) ?_ [(fun (v : Value) (_ : World) => v = .int .i64 (n : Int)), (fun v _ => ∃ s : ByteArray, v = .string s ∧ s.size ≤ 21), (fun v _ => ∃ s : ByteArray, v = .string s ∧ s.size ≤ 26), (fun v _ => ∃ s : ByteArray, v = .string s ∧ s.size ≤ 32), (fun (v : Value) (_ : World) => v = .pointer (some ⟨g, 2, none⟩)), (fun (v : Value) (_ : World) => v = .int .i64 r.b), (fun (v : Value) (_ : World) => v = .int .i64 (pick r.b 30)), (fun v _ => ∃ s : ByteArray, v = .string s ∧ s.size ≤ 21), (fun v _ => ∃ s : ByteArray, v = .string s ∧ s.size ≤ 53), (fun v _ => ∃ s : ByteArray, v = .string s ∧ s.size ≤ 59), (fun (v : Value) (_ : World) => v = .int .i64 (n : Int)), (fun v _ => ∃ s : ByteArray, v = .string s ∧ s.size ≤ 21), (fun v _ => ∃ s : ByteArray, v = .string s ∧ s.size ≤ 80), (fun v _ => ∃ s : ByteArray, v = .string s ∧ s.size ≤ 81), (fun v _ => ∃ s : ByteArray, v = .string s ∧ s.size ≤ 81)] (by kernel_rfl) (by kernel_rfl) ?_ ?_ ?_
    rotate_left
    · intro vals
      simp only [putAll, Act.put, List.setIfInBounds_toArray, List.set_cons_zero, List.set_cons_succ, Nat.zero_add, Nat.reduceAdd]
      rfl
    · simp only [List.forall_mem_cons]
      exact ⟨fun _ _ _ h _ => h, fun _ _ _ h _ => h, fun _ _ _ h _ => h, fun _ _ _ h _ => h, fun _ _ _ h _ => h, fun _ _ _ h _ => h, fun _ _ _ h _ => h, fun _ _ _ h _ => h, fun _ _ _ h _ => h, fun _ _ _ h _ => h, fun _ _ _ h _ => h, fun _ _ _ h _ => h, fun _ _ _ h _ => h, fun _ _ _ h _ => h, fun _ _ _ h _ => h, fun _ h => (by cases h)⟩
    · refine ⟨?_, ?_, ?_, ?_, ?_, ?_, ?_, ?_, ?_, ?_, ?_, ?_, ?_, ?_, ?_, trivial⟩
      · intro vals W e hd ho K hK
        refine st_quiet (v := ?_) ?_ ?_
        rotate_left
        · go_simp
          rfl
        exact hK _ _ _ rfl (by first | exact rfl | exact congrArg (Value.int _) (by first | (rw [IntKind.wrap_i64]; omega) | (rw [IntKind.wrap_u8]; omega) | omega)) (Ext.refl _)
      · intro vals W e hd ho K hK
        have h0 : vals 0 = .int .i64 (n : Int) := hd 0 (by kernel_rfl)
        go_wp2_with fail
        refine (itoa_any (n : Int) _ (by omega) (by have := HN.out; omega) (HTAB.out.ext ((Ext.refl _).drew.trans e))).mono ?_
        rintro e' u' ⟨s', rfl, hz', hx'⟩
        exact hK _ _ _ (by first | rfl | (simp only [h0]; rfl)) ⟨s', rfl, hz'⟩ hx'
      · intro vals W e hd ho K hK
        obtain ⟨s1, h1, z1⟩ := hd 1 (by kernel_rfl)
        have c0 : ((⟨#[108, 105, 110, 101, 32]⟩) : ByteArray).size = 5 := rfl
        refine st_concat _ _ _ _ (⟨#[108, 105, 110, 101, 32]⟩) (s1) rfl rfl h1 (by omega) ?_
        exact hK _ _ _ rfl ⟨_, rfl, by rw [ByteArray.size_append]; omega⟩ (Ext.refl _)
      · intro vals W e hd ho K hK
        obtain ⟨s2, h2, z2⟩ := hd 2 (by kernel_rfl)
        have c0 : ((⟨#[10, 108, 105, 110, 101, 32]⟩) : ByteArray).size = 6 := rfl
        refine st_concat _ _ _ _ (s2) (⟨#[10, 108, 105, 110, 101, 32]⟩) rfl h2 rfl (by omega) ?_
        exact hK _ _ _ rfl ⟨_, rfl, by rw [ByteArray.size_append]; omega⟩ (Ext.refl _)
      · intro vals W e hd ho K hK
        refine st_quiet (v := ?_) ?_ ?_
        rotate_left
        · go_simp
          rfl
        exact hK _ _ _ rfl (by first | exact rfl | exact congrArg (Value.int _) (by first | (rw [IntKind.wrap_i64]; omega) | (rw [IntKind.wrap_u8]; omega) | omega)) (Ext.refl _)
      · intro vals W e hd ho K hK
        have h4 : vals 4 = .pointer (some ⟨g, 2, none⟩) := hd 4 (by kernel_rfl)
        have cc := (HB.out.drew.ext e).cell 2
        simp at cc
        refine st_quiet (v := ?_) ?_ ?_
        rotate_left
        · go_simp
          rfl
        exact hK _ _ _ rfl rfl (Ext.refl _)
      · intro vals W e hd ho K hK
        have h5 : vals 5 = .int .i64 r.b := hd 5 (by kernel_rfl)
        go_wp2_with fail
        refine (picked_any r.b 30 _ HI.out.2.2.1 (by omega) (by omega)).mono ?_
        rintro e' u' ⟨rfl, rfl⟩
        exact hK _ _ _ (by first | rfl | (simp only [h5]; rfl)) rfl (Ext.refl _)
      · intro vals W e hd ho K hK
        have h6 : vals 6 = .int .i64 (pick r.b 30) := hd 6 (by kernel_rfl)
        go_wp2_with fail
        refine (itoa_any (pick r.b 30) _ (pick_range r.b 30 (by decide)).1 (by have := pick_range r.b 30 (by decide); omega) (HTAB.out.ext ((Ext.refl _).drew.trans e))).mono ?_
        rintro e' u' ⟨s', rfl, hz', hx'⟩
        exact hK _ _ _ (by first | rfl | (simp only [h6]; rfl)) ⟨s', rfl, hz'⟩ hx'
      · intro vals W e hd ho K hK
        obtain ⟨s3, h3, z3⟩ := hd 3 (by kernel_rfl)
        obtain ⟨s7, h7, z7⟩ := hd 7 (by kernel_rfl)
        refine st_concat _ _ _ _ (s3) (s7) rfl h3 h7 (by omega) ?_
        exact hK _ _ _ rfl ⟨_, rfl, by rw [ByteArray.size_append]; omega⟩ (Ext.refl _)
      · intro vals W e hd ho K hK
        obtain ⟨s8, h8, z8⟩ := hd 8 (by kernel_rfl)
        have c0 : ((⟨#[10, 108, 105, 110, 101, 32]⟩) : ByteArray).size = 6 := rfl
        refine st_concat _ _ _ _ (s8) (⟨#[10, 108, 105, 110, 101, 32]⟩) rfl h8 rfl (by omega) ?_
        exact hK _ _ _ rfl ⟨_, rfl, by rw [ByteArray.size_append]; omega⟩ (Ext.refl _)
      · intro vals W e hd ho K hK
        refine st_quiet (v := ?_) ?_ ?_
        rotate_left
        · go_simp
          rfl
        exact hK _ _ _ rfl (by first | exact rfl | exact congrArg (Value.int _) (by first | (rw [IntKind.wrap_i64]; omega) | (rw [IntKind.wrap_u8]; omega) | omega)) (Ext.refl _)
      · intro vals W e hd ho K hK
        have h10 : vals 10 = .int .i64 (n : Int) := hd 10 (by kernel_rfl)
        go_wp2_with fail
        refine (itoa_any (n : Int) _ (by omega) (by have := HN.out; omega) (HTAB.out.ext ((Ext.refl _).drew.trans e))).mono ?_
        rintro e' u' ⟨s', rfl, hz', hx'⟩
        exact hK _ _ _ (by first | rfl | (simp only [h10]; rfl)) ⟨s', rfl, hz'⟩ hx'
      · intro vals W e hd ho K hK
        obtain ⟨s9, h9, z9⟩ := hd 9 (by kernel_rfl)
        obtain ⟨s11, h11, z11⟩ := hd 11 (by kernel_rfl)
        refine st_concat _ _ _ _ (s9) (s11) rfl h9 h11 (by omega) ?_
        exact hK _ _ _ rfl ⟨_, rfl, by rw [ByteArray.size_append]; omega⟩ (Ext.refl _)
      · intro vals W e hd ho K hK
        obtain ⟨s12, h12, z12⟩ := hd 12 (by kernel_rfl)
        have c0 : ((⟨#[10]⟩) : ByteArray).size = 1 := rfl
        refine st_concat _ _ _ _ (s12) (⟨#[10]⟩) rfl h12 rfl (by omega) ?_
        exact hK _ _ _ rfl ⟨_, rfl, by rw [ByteArray.size_append]; omega⟩ (Ext.refl _)
      · intro vals W e hd ho K hK
        obtain ⟨s13, h13, z13⟩ := hd 13 (by kernel_rfl)
        refine st_quiet (v := ?_) ?_ ?_
        rotate_left
        · go_simp
          rfl
        exact hK _ _ _ rfl ⟨s13, (by first | exact rfl | exact h13), z13⟩ (Ext.refl _)
    intro vals W e hall
    obtain ⟨s14, h14, z14⟩ := hall 14 (by decide)
    have HXW := Lib.hid (HX.out.trans ((Ext.refl _).drew.trans e))
    clear hall e
    go_wp2_with fail
    go_ret
    exact ⟨s14, congrArg Ending.returned h14, by omega, HXW.out⟩
  · obtain ⟨i0, hi, hz0, hz1, hz2⟩ := info_parts info_byte0
    obtain ⟨cs, hcs, hmk⟩ := make_row (P := Tryz.prog) 95 5 i0 (.int .u8 0) Tryz.underlying95 hi hz0 hz1 rfl n (by have := HN.out; rw [hz2]; omega) (by have := HN.out; omega)
    have HCS := Lib.hid hcs
    clear hi hz0 hz1 hz2 hcs f0 f1 f2 f3
    go_wp2_with fail
    refine wp_abs (fun W => Ext w1 W ∧ Buf 5 W w1.heap.size (List.replicate n 0)) ⟨(Ext.refl _).alloc _, Buf.zeros _ _ _ _ HCS.out⟩ ?_
    rintro W ⟨hx, hb⟩
    have HX1 := Lib.hid hx
    have HBF := Lib.hid hb
    obtain ⟨gb, hgb⟩ : ∃ gb, gb = w1.heap.size := ⟨_, rfl⟩
    rw [← hgb] at HBF ⊢
    have HGB := Lib.hid hgb
    clear hx hb hmk hgb HCS
    go_wp2_with fail
    go_loopw [38] (fun kv wr => ∃ (k : Nat) (bl : List UInt8), kv = .int .i64 k ∧ k ≤ n ∧ bl.length = n ∧ Ext w1 wr ∧ Buf 5 wr gb bl) (fun kv _ => n - (intOf kv).toNat)
    case atStart => exact ⟨0, _, rfl, Nat.zero_le _, List.length_replicate, HX1.out, HBF.out⟩
    case round =>
      clear HX1 HBF
      obtain ⟨k, bl, rfl, hk, hbl, hx, hb⟩ := hrel
      have HB0 := HB
      by_cases hlt : k < n
      · have hki : (k : Int) < (n : Int) := by omega
        have HBL := Lib.hid hbl
        have bp := hb.cell k (by omega)
        have bz := hb.frozen k (by omega)
        have HB := Lib.hid (HB0.out.ext hx)
        have HXR := Lib.hid hx
        have HBF := Lib.hid hb
        have HKN := Lib.hid (And.intro hlt hk)
        have p1 := pick_range r.b 50 (by decide)
        have p2 := pick_range r.c 256 (by decide)
        obtain ⟨m1, hm1⟩ : ∃ m1 : Int, m1 = (k : Int) * (k : Int) := ⟨_, rfl⟩
        have y1 : (k : Int) * (k : Int) = m1 := hm1.symm
        have b1 : 0 ≤ m1 ∧ m1 ≤ 841 := by
          rw [hm1]
          have : (k : Int) ≤ 29 := by have := HN.out; omega
          exact ⟨Int.mul_nonneg (by omega) (by omega), Int.le_trans (Int.mul_le_mul this this (by omega) (by omega)) (by decide)⟩
        obtain ⟨m2, hm2⟩ : ∃ m2 : Int, m2 = m1 * pick r.b 50 := ⟨_, rfl⟩
        have y2 : m1 * pick r.b 50 = m2 := hm2.symm
        have b2 : 0 ≤ m2 ∧ m2 ≤ 42050 := by
          rw [hm2]
          exact ⟨Int.mul_nonneg b1.1 p1.1, Int.le_trans (Int.mul_le_mul b1.2 (Int.le_of_lt p1.2) p1.1 (by decide)) (by decide)⟩
        obtain ⟨m3, hm3⟩ : ∃ m3 : Int, m3 = m2 + pick r.c 256 := ⟨_, rfl⟩
        have y3 : m2 + pick r.c 256 = m3 := hm3.symm
        have b3 : 0 ≤ m3 ∧ m3 ≤ 43000 := by omega
        obtain ⟨m4, hm4⟩ : ∃ m4 : Int, m4 = m3 % 256 := ⟨_, rfl⟩
        have y4 : m3 % 256 = m4 := hm4.symm
        have b4 : 0 ≤ m4 ∧ m4 < 256 := by omega
        have HM4 := Lib.hid b4
        obtain ⟨b10, b11⟩ := b1
        obtain ⟨b20, b21⟩ := b2
        obtain ⟨b30, b31⟩ := b3
        obtain ⟨b40, b41⟩ := b4
        clear hm1 hm2 hm3 hm4 p1 p2 hlt hk hbl hx hb HB0
        go_wp2_with fail
        refine wp_region_valsA 99 none (F := ?_) ?_ [(fun (v : Value) (_ : World) => v = .slice (some ⟨gb, 0, none⟩) n n), (fun (v : Value) (_ : World) => v = .int .i64 (k : Int)), (fun (v : Value) (_ : World) => v = .int .i64 (k : Int)), (fun (v : Value) (_ : World) => v = .int .i64 (k : Int)), (fun (v : Value) (_ : World) => v = .int .i64 m1), (fun (v : Value) (_ : World) => v = .pointer (some ⟨g, 2, none⟩)), (fun (v : Value) (_ : World) => v = .int .i64 r.b), (fun (v : Value) (_ : World) => v = .int .i64 (pick r.b 50)), (fun (v : Value) (_ : World) => v = .int .i64 m2), (fun (v : Value) (_ : World) => v = .pointer (some ⟨g, 3, none⟩)), (fun (v : Value) (_ : World) => v = .int .i64 r.c), (fun (v : Value) (_ : World) => v = .int .i64 (pick r.c 256)), (fun (v : Value) (_ : World) => v = .int .i64 m3), (fun (v : Value) (_ : World) => v = .int .u8 m4), (fun (v : Value) (_ : World) => v = .pointer (some ⟨gb, k, none⟩))] (by kernel_rfl) rfl (by kernel_rfl) rfl (by kernel_rfl) ?_ ?_ ?_
        rotate_left
        · intro vals
          simp only [putAll, List.dropLast, Act.put, List.setIfInBounds_toArray, List.set_cons_zero, List.set_cons_succ, Nat.zero_add, Nat.reduceAdd]
          rfl
        · intro j p hp v u u' h hr
          match j, hp with
          | 0, hp => obtain rfl := Option.some.inj hp; exact h
          | 1, hp => obtain rfl := Option.some.inj hp; exact h
          | 2, hp => obtain rfl := Option.some.inj hp; exact h
          | 3, hp => obtain rfl := Option.some.inj hp; exact h
          | 4, hp => obtain rfl := Option.some.inj hp; exact h
          | 5, hp => obtain rfl := Option.some.inj hp; exact h
          | 6, hp => obtain rfl := Option.some.inj hp; exact h
          | 7, hp => obtain rfl := Option.some.inj hp; exact h
          | 8, hp => obtain rfl := Option.some.inj hp; exact h
          | 9, hp => obtain rfl := Option.some.inj hp; exact h
          | 10, hp => obtain rfl := Option.some.inj hp; exact h
          | 11, hp => obtain rfl := Option.some.inj hp; exact h
          | 12, hp => obtain rfl := Option.some.inj hp; exact h
          | 13, hp => obtain rfl := Option.some.inj hp; exact h
          | 14, hp => obtain rfl := Option.some.inj hp; exact h
          | n + 15, hp => exact absurd hp (by simp)
        · refine ⟨?_, ?_, ?_, ?_, ?_, ?_, ?_, ?_, ?_, ?_, ?_, ?_, ?_, ?_, ?_, trivial⟩
          · intro vals W' e hd ho K hK
            have hx : World.grownBy _ W' none := e
            refine st_quiet (v := ?_) ?_ ?_
            rotate_left
            · go_simp
              rfl
            exact hK _ _ _ rfl (by first | exact rfl | exact congrArg (Value.int _) (by first | (rw [IntKind.wrap_i64]; omega) | (rw [IntKind.wrap_u8]; omega) | omega)) (Ext.refl _)
          · intro vals W' e hd ho K hK
            have hx : World.grownBy _ W' none := e
            refine st_quiet (v := ?_) ?_ ?_
            rotate_left
            · go_simp
              rfl
            exact hK _ _ _ rfl (by first | exact rfl | exact congrArg (Value.int _) (by first | (rw [IntKind.wrap_i64]; omega) | (rw [IntKind.wrap_u8]; omega) | omega)) (Ext.refl _)
          · intro vals W' e hd ho K hK
            have hx : World.grownBy _ W' none := e
            refine st_quiet (v := ?_) ?_ ?_
            rotate_left
            · go_simp
              rfl
            exact hK _ _ _ rfl (by first | exact rfl | exact congrArg (Value.int _) (by first | (rw [IntKind.wrap_i64]; omega) | (rw [IntKind.wrap_u8]; omega) | omega)) (Ext.refl _)
          · intro vals W' e hd ho K hK
            have hx : World.grownBy _ W' none := e
            refine st_quiet (v := ?_) ?_ ?_
            rotate_left
            · go_simp
              rfl
            exact hK _ _ _ rfl (by first | exact rfl | exact congrArg (Value.int _) (by first | (rw [IntKind.wrap_i64]; omega) | (rw [IntKind.wrap_u8]; omega) | omega)) (Ext.refl _)
          · intro vals W' e hd ho K hK
            have h2 : vals 2 = .int .i64 (k : Int) := hd 2 (by kernel_rfl)
            have h3 : vals 3 = .int .i64 (k : Int) := hd 3 (by kernel_rfl)
            have hx : World.grownBy _ W' none := e
            refine st_quiet (v := ?_) ?_ ?_
            rotate_left
            · go_simp
              rfl
            exact hK _ _ _ rfl (by first | exact rfl | exact congrArg (Value.int _) (by first | (rw [IntKind.wrap_i64]; omega) | (rw [IntKind.wrap_u8]; omega) | omega)) (Ext.refl _)
          · intro vals W' e hd ho K hK
            have hx : World.grownBy _ W' none := e
            refine st_quiet (v := ?_) ?_ ?_
            rotate_left
            · go_simp
              rfl
            exact hK _ _ _ rfl (by first | exact rfl | exact congrArg (Value.int _) (by first | (rw [IntKind.wrap_i64]; omega) | (rw [IntKind.wrap_u8]; omega) | omega)) (Ext.refl _)
          · intro vals W' e hd ho K hK
            have h5 : vals 5 = .pointer (some ⟨g, 2, none⟩) := hd 5 (by kernel_rfl)
            have hx : World.grownBy _ W' none := e
            have cc := (HB.out.drew.grown hx (fun q hq => by cases hq)).cell 2
            simp at cc
            refine st_quiet (v := ?_) ?_ ?_
            rotate_left
            · go_simp
              rfl
            exact hK _ _ _ rfl rfl (Ext.refl _)
          · intro vals W' e hd ho K hK
            have h6 : vals 6 = .int .i64 r.b := hd 6 (by kernel_rfl)
            have hx : World.grownBy _ W' none := e
            go_wp2_with fail
            refine (picked_any r.b 50 _ HI.out.2.2.1 (by omega) (by omega)).mono ?_
            rintro e' u' ⟨rfl, rfl⟩
            exact hK _ _ _ (by first | rfl | (simp only [h6]; rfl)) rfl (Ext.refl _)
          · intro vals W' e hd ho K hK
            have h4 : vals 4 = .int .i64 m1 := hd 4 (by kernel_rfl)
            have h7 : vals 7 = .int .i64 (pick r.b 50) := hd 7 (by kernel_rfl)
            have hx : World.grownBy _ W' none := e
            refine st_quiet (v := ?_) ?_ ?_
            rotate_left
            · go_simp
              rfl
            exact hK _ _ _ rfl (by first | exact rfl | exact congrArg (Value.int _) (by first | (rw [IntKind.wrap_i64]; omega) | (rw [IntKind.wrap_u8]; omega) | omega)) (Ext.refl _)
          · intro vals W' e hd ho K hK
            have hx : World.grownBy _ W' none := e
            refine st_quiet (v := ?_) ?_ ?_
            rotate_left
            · go_simp
              rfl
            exact hK _ _ _ rfl (by first | exact rfl | exact congrArg (Value.int _) (by first | (rw [IntKind.wrap_i64]; omega) | (rw [IntKind.wrap_u8]; omega) | omega)) (Ext.refl _)
          · intro vals W' e hd ho K hK
            have h9 : vals 9 = .pointer (some ⟨g, 3, none⟩) := hd 9 (by kernel_rfl)
            have hx : World.grownBy _ W' none := e
            have cc := (HB.out.drew.grown hx (fun q hq => by cases hq)).cell 3
            simp at cc
            refine st_quiet (v := ?_) ?_ ?_
            rotate_left
            · go_simp
              rfl
            exact hK _ _ _ rfl rfl (Ext.refl _)
          · intro vals W' e hd ho K hK
            have h10 : vals 10 = .int .i64 r.c := hd 10 (by kernel_rfl)
            have hx : World.grownBy _ W' none := e
            go_wp2_with fail
            refine (picked_any r.c 256 _ HI.out.2.2.2 (by omega) (by omega)).mono ?_
            rintro e' u' ⟨rfl, rfl⟩
            exact hK _ _ _ (by first | rfl | (simp only [h10]; rfl)) rfl (Ext.refl _)
          · intro vals W' e hd ho K hK
            have h8 : vals 8 = .int .i64 m2 := hd 8 (by kernel_rfl)
            have h11 : vals 11 = .int .i64 (pick r.c 256) := hd 11 (by kernel_rfl)
            have hx : World.grownBy _ W' none := e
            refine st_quiet (v := ?_) ?_ ?_
            rotate_left
            · go_simp
              rfl
            exact hK _ _ _ rfl (by first | exact rfl | exact congrArg (Value.int _) (by first | (rw [IntKind.wrap_i64]; omega) | (rw [IntKind.wrap_u8]; omega) | omega)) (Ext.refl _)
          · intro vals W' e hd ho K hK
            have h12 : vals 12 = .int .i64 m3 := hd 12 (by kernel_rfl)
            have hx : World.grownBy _ W' none := e
            refine st_quiet (v := ?_) ?_ ?_
            rotate_left
            · go_simp
              rfl
            exact hK _ _ _ rfl (by first | exact rfl | exact congrArg (Value.int _) (by first | (rw [IntKind.wrap_i64]; omega) | (rw [IntKind.wrap_u8]; omega) | omega)) (Ext.refl _)
          · intro vals W' e hd ho K hK
            have h0 : vals 0 = .slice (some ⟨gb, 0, none⟩) n n := hd 0 (by kernel_rfl)
            have h1 : vals 1 = .int .i64 (k : Int) := hd 1 (by kernel_rfl)
            have hx : World.grownBy _ W' none := e
            refine st_quiet (v := ?_) ?_ ?_
            rotate_left
            · go_simp
              rfl
            exact hK _ _ _ rfl (by first | exact rfl | exact congrArg (Value.int _) (by first | (rw [IntKind.wrap_i64]; omega) | (rw [IntKind.wrap_u8]; omega) | omega)) (Ext.refl _)
        intro vals W' e hall K hK
        have ex : Ext wr W' := (Ext.refl wr).drew.grown e (fun q hq => by cases hq)
        have q0 := ex.cell bp
        have q1 := (ex.frozen (p := ⟨gb, k, none⟩) HBF.out.lt).trans bz
        have HEX := Lib.hid ex
        have h13 : vals 13 = .int .u8 m4 := hall 13 (by decide)
        have h14 : vals 14 = .pointer (some ⟨gb, k, none⟩) := hall 14 (by decide)
        clear hall e ex bp bz
        go_wp2_with fail
        go_roundw
        case rel => exact ⟨k + 1, bl.set k (byte m4), by first | rfl | go_num, by have := HKN.out; omega, by rw [List.length_set]; exact HBL.out, (HXR.out.trans HEX.out).setCell (by have := HGB.out; dsimp only; omega) _, (HBF.out.ext HEX.out).set k m4 HM4.out.1 HM4.out.2⟩
        case measure => have := HKN.out; (simp [intOf]; try omega)
      · obtain rfl : k = n := by omega
        have HBF := Lib.hid hb
        have HBL := Lib.hid hbl
        have HXR := Lib.hid hx
        clear hb hx hbl hlt
        go_wp2_with (refine wpList_frombytes (.tmp 57) 95 9 5 rfl rfl Tryz.underlying95 Tryz.underlying5 Tryz.underlying9 gb k k _ HBF.out HBL.out.symm rfl ?_)
        go_wp2_with fail
        go_ret
        exact ⟨_, rfl, by rw [size_bs, HBL.out]; have := HN.out; omega, HX.out.trans HXR.out⟩
  · have h4 := pick_range r.b 256 (by decide)
    obtain ⟨pb, hpb⟩ : ∃ pb, pb = pick r.b 256 := ⟨_, rfl⟩
    rw [← hpb] at h4
    have HPB := Lib.hid hpb
    obtain ⟨p0, p1⟩ := h4
    obtain ⟨c, hc⟩ : ∃ c : Nat, c = 4 * n := ⟨_, rfl⟩
    have y1 : (4 : Int) * (n : Int) = (c : Int) := by omega
    have HC := Lib.hid (show c ≤ 116 by have := HN.out; omega)
    have hc2 : (c : Int) ≤ 116 := by have := HN.out; omega
    clear hpb hc
    go_wp2_with fail
    refine (picked_any r.b 256 w1 HI.out.2.2.1 (by omega) (by omega)).mono ?_
    rintro e w2 ⟨rfl, hw⟩
    obtain rfl := hw.symm
    rw [← HPB.out]
    clear f0 f1 f2 f3
    go_wp2_with fail
    refine (rep_any (bs [byte pb]) c _ 116 (by rw [size_bs]; show 1 * c ≤ 116; have := HC.out; omega) (by decide) (by have := HC.out; omega)).mono ?_
    rintro e w2 ⟨s, rfl, hz, hx⟩
    have HXW := Lib.hid (HX.out.trans (((Ext.refl _).alloc _).trans hx))
    clear hx
    go_wp2_with fail
    go_ret
    exact ⟨s, rfl, by omega, HXW.out⟩
  · obtain ⟨q, hq⟩ : ∃ q : Nat, q = n % 4 := ⟨_, rfl⟩
    have y1 : Int.tmod (n : Int) 4 = (q : Int) := by rw [Int.tmod_eq_emod_of_nonneg (by omega)]; omega
    have y1' : (n : Int) % 4 = (q : Int) := by omega
    obtain ⟨c, hc⟩ : ∃ c : Nat, c = 1 + q := ⟨_, rfl⟩
    have y2 : (1 : Int) + (q : Int) = (c : Int) := by omega
    have HC := Lib.hid (show c ≤ 4 by omega)
    have hc2 : (c : Int) ≤ 4 := by omega
    clear hq hc f0 f1 f2 f3
    go_wp2_with fail
    refine wp_region_vals (F := ?_) ?_ [(fun (v : Value) (_ : World) => v = .int .i64 (n : Int)), (fun (v : Value) (_ : World) => v = .int .i64 (q : Int)), (fun (v : Value) (_ : World) => v = .int .i64 (c : Int)), (fun v _ => ∃ s : ByteArray, v = .string s ∧ s.size ≤ 60), (fun (v : Value) (_ : World) => v = .pointer (some ⟨g, 3, none⟩)), (fun (v : Value) (_ : World) => v = .int .i64 r.c), (fun (v : Value) (_ : World) => v = .int .i64 (pick r.c 1000)), (fun v _ => ∃ s : ByteArray, v = .string s ∧ s.size ≤ 21), (fun v _ => ∃ s : ByteArray, v = .string s ∧ s.size ≤ 81), (fun v _ => ∃ s : ByteArray, v = .string s ∧ s.size ≤ 81)] (by kernel_rfl) (by kernel_rfl) ?_ ?_ ?_
    rotate_left
    · intro vals
      simp only [putAll, Act.put, List.setIfInBounds_toArray, List.set_cons_zero, List.set_cons_succ, Nat.zero_add, Nat.reduceAdd]
      rfl
    · simp only [List.forall_mem_cons]
      exact ⟨fun _ _ _ h _ => h, fun _ _ _ h _ => h, fun _ _ _ h _ => h, fun _ _ _ h _ => h, fun _ _ _ h _ => h, fun _ _ _ h _ => h, fun _ _ _ h _ => h, fun _ _ _ h _ => h, fun _ _ _ h _ => h, fun _ _ _ h _ => h, fun _ h => (by cases h)⟩
    · refine ⟨?_, ?_, ?_, ?_, ?_, ?_, ?_, ?_, ?_, ?_, trivial⟩
      · intro vals W e hd ho K hK
        refine st_quiet (v := ?_) ?_ ?_
        rotate_left
        · go_simp
          rfl
        exact hK _ _ _ rfl (by first | exact rfl | exact congrArg (Value.int _) (by first | (rw [IntKind.wrap_i64]; omega) | (rw [IntKind.wrap_u8]; omega) | omega)) (Ext.refl _)
      · intro vals W e hd ho K hK
        have h0 : vals 0 = .int .i64 (n : Int) := hd 0 (by kernel_rfl)
        refine st_quiet (v := ?_) ?_ ?_
        rotate_left
        · go_simp
          rfl
        exact hK _ _ _ rfl (by first | exact rfl | exact congrArg (Value.int _) (by first | (rw [IntKind.wrap_i64]; omega) | (rw [IntKind.wrap_u8]; omega) | omega)) (Ext.refl _)
      · intro vals W e hd ho K hK
        have h1 : vals 1 = .int .i64 (q : Int) := hd 1 (by kernel_rfl)
        refine st_quiet (v := ?_) ?_ ?_
        rotate_left
        · go_simp
          rfl
        exact hK _ _ _ rfl (by first | exact rfl | exact congrArg (Value.int _) (by first | (rw [IntKind.wrap_i64]; omega) | (rw [IntKind.wrap_u8]; omega) | omega)) (Ext.refl _)
      · intro vals W e hd ho K hK
        have h2 : vals 2 = .int .i64 (c : Int) := hd 2 (by kernel_rfl)
        go_wp2_with fail
        refine (rep_any (⟨#[116, 104, 101, 32, 113, 117, 105, 99, 107, 32, 102, 111, 120, 44, 32]⟩) c _ 60 (by have h15 : ((⟨#[116, 104, 101, 32, 113, 117, 105, 99, 107, 32, 102, 111, 120, 44, 32]⟩) : ByteArray).size = 15 := rfl; have := HC.out; rw [h15]; omega) (by decide) (by have := HC.out; omega)).mono ?_
        rintro e' u' ⟨s', rfl, hz', hx'⟩
        exact hK _ _ _ (by first | rfl | (simp only [h2]; rfl)) ⟨s', rfl, hz'⟩ hx'
      · intro vals W e hd ho K hK
        refine st_quiet (v := ?_) ?_ ?_
        rotate_left
        · go_simp
          rfl
        exact hK _ _ _ rfl (by first | exact rfl | exact congrArg (Value.int _) (by first | (rw [IntKind.wrap_i64]; omega) | (rw [IntKind.wrap_u8]; omega) | omega)) (Ext.refl _)
      · intro vals W e hd ho K hK
        have h4 : vals 4 = .pointer (some ⟨g, 3, none⟩) := hd 4 (by kernel_rfl)
        have cc := (HB.out.drew.ext e).cell 3
        simp at cc
        refine st_quiet (v := ?_) ?_ ?_
        rotate_left
        · go_simp
          rfl
        exact hK _ _ _ rfl rfl (Ext.refl _)
      · intro vals W e hd ho K hK
        have h5 : vals 5 = .int .i64 r.c := hd 5 (by kernel_rfl)
        go_wp2_with fail
        refine (picked_any r.c 1000 _ HI.out.2.2.2 (by omega) (by omega)).mono ?_
        rintro e' u' ⟨rfl, rfl⟩
        exact hK _ _ _ (by first | rfl | (simp only [h5]; rfl)) rfl (Ext.refl _)
      · intro vals W e hd ho K hK
        have h6 : vals 6 = .int .i64 (pick r.c 1000) := hd 6 (by kernel_rfl)
        go_wp2_with fail
        refine (itoa_any (pick r.c 1000) _ (pick_range r.c 1000 (by decide)).1 (by have := pick_range r.c 1000 (by decide); omega) (HTAB.out.ext ((Ext.refl _).drew.trans e))).mono ?_
        rintro e' u' ⟨s', rfl, hz', hx'⟩
        exact hK _ _ _ (by first | rfl | (simp only [h6]; rfl)) ⟨s', rfl, hz'⟩ hx'
      · intro vals W e hd ho K hK
        obtain ⟨s3, h3, z3⟩ := hd 3 (by kernel_rfl)
        obtain ⟨s7, h7, z7⟩ := hd 7 (by kernel_rfl)
        refine st_concat _ _ _ _ (s3) (s7) rfl h3 h7 (by omega) ?_
        exact hK _ _ _ rfl ⟨_, rfl, by rw [ByteArray.size_append]; omega⟩ (Ext.refl _)
      · intro vals W e hd ho K hK
        obtain ⟨s8, h8, z8⟩ := hd 8 (by kernel_rfl)
        refine st_quiet (v := ?_) ?_ ?_
        rotate_left
        · go_simp
          rfl
        exact hK _ _ _ rfl ⟨s8, (by first | exact rfl | exact h8), z8⟩ (Ext.refl _)
    intro vals W e hall
    obtain ⟨s9, h9, z9⟩ := hall 9 (by decide)
    have HXW := Lib.hid (HX.out.trans ((Ext.refl _).drew.trans e))
    clear hall e
    go_wp2_with fail
    go_ret
    exact ⟨s9, congrArg Ending.returned h9, by omega, HXW.out⟩
end Go.Proofs.YtgjijcgkmofaaaaGreatDoor

/-
  slices.Repeat of one text: a row of the call's own, of as many copies. Conditions: at least one, at most 1000 copies.
-/
namespace Go.Proofs.YtgjijcgkmofaaaaGreatDoor
set_option linter.unusedSimpArgs false
set_option linter.unusedVariables false
open Go.RowKit

/-- k copies, then empty texts. -/
def repCells (s : ByteArray) (n k : Nat) : Array Value := (List.replicate k (Value.string s) ++ List.replicate (n - k) (Value.string .empty)).toArray
theorem repCells_size (s : ByteArray) {n k : Nat} (h : k ≤ n) : (repCells s n k).size = n := by unfold repCells; simp; omega
theorem repCells_at {s : ByteArray} {n k j : Nat} (h : j < k) : (repCells s n k)[j]? = some (.string s) := by
  unfold repCells
  rw [List.getElem?_toArray, List.getElem?_append_left (by simpa using h), List.getElem?_replicate, if_pos h]
theorem repCells_step {s : ByteArray} {n k m : Nat} (h : k + m ≤ n) : ((repCells s n k).toList.take k ++ List.replicate m (Value.string s) ++ (repCells s n k).toList.drop (k + m)).toArray = repCells s n (k + m) := by
  unfold repCells
  congr 1
  have h1 : (List.replicate k (Value.string s)).length = k := by simp
  rw [List.take_left' h1, List.drop_append, List.length_replicate, List.drop_of_length_le (by simp), List.nil_append, List.drop_replicate, show k + m - k = m by omega, show n - k - m = n - (k + m) by omega, List.replicate_append_replicate]
theorem setRow_grown (w : World) (g : Nat) (cs : Array Value) : w.grownBy (w.setRow g cs) (some g) := by
  refine ⟨rfl, rfl, rfl, ?_, fun b hb hne => ?_⟩
  · unfold World.setRow; simp
  · unfold World.setRow
    rw [Array.getElem?_modify, if_neg (fun e => hne (by rw [e]))]
theorem Blk_.setRow {w : World} {g : Nat} {t : TypeId} {cs : Array Value} (h : Blk_ w g t cs) (cs' : Array Value) : Blk_ (w.setRow g cs') g t cs' := setRow_heap w g cs cs' t (0, 0) h
theorem info_strS : (Tryz.prog.info? 9).map (fun i => (i.zero, i.size, i.bytes)) = some (some (.string .empty), 1, 16) := by kernel_rfl
theorem info_strS1 : (Tryz.prog.info? 9).map (·.size) = some 1 := by kernel_rfl
end Go.Proofs.YtgjijcgkmofaaaaGreatDoor

/-
  arraskeep.filled: an array into which payloads made of raw numbers were written, and what its sectors tell. Conditions: the first argument reads as a list of raw numbers, the second one is a number of sectors that an array may have; the table of powers of ten that the library reads is in place.
-/
namespace Go.Proofs.YtgjijcgkmofaaaaGreatDoor
set_option linter.unusedSimpArgs false
set_option linter.unusedVariables false
open Go.RowKit

def encRw (x : Raw4) : List Value := [.int .i64 x.kind, .int .i64 x.a, .int .i64 x.b, .int .i64 x.c]
theorem encRw_ok : Enc 4 RRaw encRw := ⟨fun _ => rfl, fun _ _ _ h => h.1, fun _ _ _ _ h => h, fun _ u h => by simp [encRw] at h; rcases h with h | h | h | h <;> subst h <;> rfl⟩
/-- A row of texts of the call's own. -/
def Strs (w : World) (g : Nat) (all : List ByteArray) : Prop := Blk_ w g 9 (all.map Value.string).toArray
theorem Strs.ext {w w' : World} {g : Nat} {all : List ByteArray} (h : Strs w g all) (k : Ext w w') : Strs w' g all := Blk_.ext h k
theorem Strs.far {w : World} {g : Nat} {all : List ByteArray} (h : Strs w g all) {p : Addr} (hp : g ≠ p.block) (u : Value) : Strs (w.setCell p u) g all := Blk_.far h hp u
theorem Strs.set {w : World} {g : Nat} {all : List ByteArray} (h : Strs w g all) (n : Nat) (s : ByteArray) : Strs (w.setCell ⟨g, n, none⟩ (.string s)) g (all.set n s) := by
  have := Blk_.set h n (.string s)
  unfold Strs
  rw [List.map_set]
  simpa using this
theorem Strs.cell {w : World} {g : Nat} {all : List ByteArray} (h : Strs w g all) {n : Nat} (hn : n < all.length) : w.cell? ⟨g, n, none⟩ = some (.string (pl all n)) := by
  rw [Blk_.cell h n]
  unfold pl
  rw [List.getElem?_toArray, List.getElem?_map, List.getD_eq_getElem?_getD, List.getElem?_eq_getElem hn]
  rfl
theorem Strs.rep {w : World} {g : Nat} {s : ByteArray} {n : Nat} (h : Blk_ w g 9 (repCells s n n)) : Strs w g (List.replicate n s) := by
  unfold Strs
  have e : (List.map Value.string (List.replicate n s)).toArray = repCells s n n := by
    unfold repCells
    rw [List.map_replicate, Nat.sub_self, List.replicate_zero, List.append_nil]
  rw [e]; exact h
/-- What stands at the head of a round. -/
structure FX (w wr : World) (b4 b7 g : Nat) (A : Option Addr) (c : Nat) (a : List Dev) (m : Nat) (all : List ByteArray) : Prop where
  ext : Ext w wr
  r4 : Blk_ wr b4 30 #[.slice none 0 0]
  r7 : Blk_ wr b7 30 #[.slice A 3 c]
  strs : Strs wr g all
  arr : ∃ base, b4 < base ∧ OArr 68 wr base (.slice A 3 c) a
  full : Full a m all
theorem FX.up {w wr wr' : World} {b4 b7 g : Nat} {A : Option Addr} {c : Nat} {a : List Dev} {m : Nat} {all : List ByteArray} (h : FX w wr b4 b7 g A c a m all) (k : Ext wr wr') : FX w wr' b4 b7 g A c a m all :=
  ⟨h.ext.trans k, h.r4.ext k, h.r7.ext k, h.strs.ext k, (let ⟨b, hb, ho⟩ := h.arr; ⟨b, hb, ho.ext k⟩), h.full⟩
theorem FX.rarr {w wr : World} {b4 b7 g : Nat} {A : Option Addr} {c : Nat} {a : List Dev} {m : Nat} {all : List ByteArray} (h : FX w wr b4 b7 g A c a m all) : RArr wr [.slice A 3 c] a := by
  obtain ⟨b, hb, ho⟩ := h.arr
  exact ho.rarr (by rw [h.full.good.len]; decide)
end Go.Proofs.YtgjijcgkmofaaaaGreatDoor

/-
  arraskeep.hurt: devices of an array lose sectors. Conditions: the array may be, each act is one that loses a sector of one of the three devices.
-/
namespace Go.Proofs.YtgjijcgkmofaaaaGreatDoor
set_option linter.unusedSimpArgs false
set_option linter.unusedVariables false
open Go.RowKit

/-- An act that hurts. -/
structure HA where
  kind : Int
  d : Nat
  n : Int
  at_ : Int
  by_ : Int
def encHA (x : HA) : List Value := [.int .i64 x.kind, .slice none 0 0, .string .empty, .int .i64 (x.d : Int), .int .i64 x.n, .int .i64 x.at_, .int .i64 x.by_]
/-- What an act does that loses a sector. -/
def loseOne (a : List Dev) (x : HA) : List Dev := if touchCode (dv a x.d) x.n = 0 then a.set x.d (loseS (dv a x.d) x.n) else a
def loseAll (a : List Dev) (l : List HA) : List Dev := l.foldl loseOne a
theorem loseAll_snoc (a : List Dev) (l : List HA) (k : Nat) (h : k < l.length) : loseAll a (l.take (k + 1)) = loseOne (loseAll a (l.take k)) l[k] := by
  unfold loseAll
  rw [List.take_succ_eq_append_getElem h, List.foldl_append]
  rfl
theorem loseOne_good {a : List Dev} {m : Nat} (h : Good a m) {x : HA} (hx : x.d < 3) : Good (loseOne a x) m := by
  unfold loseOne
  split
  · rename_i ht
    exact h.dev hx (lose_may ht) (lose_len ht)
  · exact h
theorem loseAll_good {a : List Dev} {m : Nat} (h : Good a m) {l : List HA} (hl : ∀ x ∈ l, x.d < 3) : Good (loseAll a l) m := by
  induction l generalizing a with
  | nil => exact h
  | cons x l ih => exact ih (loseOne_good h (hl x (List.mem_cons_self))) (fun y hy => hl y (List.mem_cons_of_mem _ hy))
/-- An array of the call's own, or one that came in. -/
def Sf (w wr : World) (b2 b4 : Nat) (v : Value) (a : List Dev) : Prop := (RArr w [v] a ∧ w.heap.size ≤ b2 ∧ w.heap.size ≤ b4 ∧ Ext w wr) ∨ (∃ base, b2 < base ∧ b4 < base ∧ a.length = 3 ∧ OArr 68 wr base v a)
theorem Sf.rarr {w wr : World} {b2 b4 : Nat} {v : Value} {a : List Dev} (h : Sf w wr b2 b4 v a) : RArr wr [v] a := by
  rcases h with ⟨h, _, _, k⟩ | ⟨base, _, _, h3, h⟩
  · exact h.up k
  · exact h.rarr (by rw [h3]; decide)
theorem Sf.ext {w wr wr' : World} {b2 b4 : Nat} {v : Value} {a : List Dev} (h : Sf w wr b2 b4 v a) (k : Ext wr wr') : Sf w wr' b2 b4 v a := by
  rcases h with ⟨h, x, y, e⟩ | ⟨base, x, y, h3, h⟩
  · exact .inl ⟨h, x, y, e.trans k⟩
  · exact .inr ⟨base, x, y, h3, h.ext k⟩
theorem Sf.far4 {w wr : World} {b2 b4 : Nat} {v : Value} {a : List Dev} (h : Sf w wr b2 b4 v a) (u : Value) : RArr (wr.setCell ⟨b4, 0, none⟩ u) [v] a := by
  rcases h with ⟨h, x, y, e⟩ | ⟨base, x, y, h3, h⟩
  · exact h.up (e.setCell y u)
  · exact (h.far (p := ⟨b4, 0, none⟩) y u).rarr (by rw [h3]; decide)
/-- What stands at the head of a round. -/
structure HX_ (w wr : World) (b2 b4 : Nat) (A : Option Addr) (c : Nat) (a : List Dev) (m : Nat) : Prop where
  ext : Ext w wr
  r2 : Blk_ wr b2 30 #[.slice A 3 c]
  r4 : Blk_ wr b4 30 #[.slice none 0 0]
  sf : Sf w wr b2 b4 (.slice A 3 c) a
  good : Good a m
theorem HX_.up {w wr wr' : World} {b2 b4 : Nat} {A : Option Addr} {c : Nat} {a : List Dev} {m : Nat} (h : HX_ w wr b2 b4 A c a m) (k : Ext wr wr') : HX_ w wr' b2 b4 A c a m := ⟨h.ext.trans k, h.r2.ext k, h.r4.ext k, h.sf.ext k, h.good⟩
theorem HX_.rarrLook {w wr : World} {b2 b4 : Nat} {A : Option Addr} {c : Nat} {a : List Dev} {m : Nat} (h : HX_ w wr b2 b4 A c a m) : ∃ g o, A = some ⟨g, o, none⟩ ∧ ∀ k, k < 3 → ∃ A1 c1 A2 c2,
    wr.cell? ⟨g, o + k * 2, none⟩ = some (.slice A1 (dv a k).sec.length c1) ∧ wr.cell? ⟨g, o + k * 2 + 1, none⟩ = some (.slice A2 (dv a k).lost.length c2) ∧ RDev wr [.slice A1 (dv a k).sec.length c1, .slice A2 (dv a k).lost.length c2] (dv a k) := by
  have h3 := h.good.len
  have hr := h.sf.rarr
  have hr' : RArr wr [.slice A a.length c] a := by rw [h3]; exact hr
  obtain ⟨b, o, hA, hlook⟩ := hr'.look 0 (by omega)
  exact ⟨b, o, hA, fun k hk => by
    have := hlook k (by omega)
    exact this⟩
theorem HX_.rarr {w wr : World} {b2 b4 : Nat} {A : Option Addr} {c : Nat} {a : List Dev} {m : Nat} (h : HX_ w wr b2 b4 A c a m) : RArr wr [.slice A 3 c] a := h.sf.rarr
/-- A device is stored into a copy. -/
theorem OArr.stored {E : TypeId} {w6 W5 w7 : World} {b2 g9 c7 d : Nat} {a : List Dev} {dd : Dev} {x1 x2 : Value} (h7 : OArr E w7 W5.heap.size (.slice (some ⟨g9, 0, none⟩) 3 c7) a) (h3 : a.length = 3) (hd : d < 3) (hx5 : w6.heap.size ≤ W5.heap.size) (hx7 : Ext W5 w7)
    (hD : RDev W5 [x1, x2] dd) (hP : New w6.heap.size x1) (hQ : New w6.heap.size x2) (hb2 : b2 < w6.heap.size) (u : Value) :
    OArr E (((w7.setCell ⟨b2, 0, none⟩ u).setCell ⟨g9, d * 2, none⟩ x1).setCell ⟨g9, d * 2 + 1, none⟩ x2) w6.heap.size (.slice (some ⟨g9, 0, none⟩) 3 c7) (a.set d dd) := by
  have hg := (h7.atg h3).1
  refine OArr.set (((h7.base hx5).far (p := ⟨b2, 0, none⟩) hb2 u)) (by omega) ?_ hP hQ
  exact ((hD.old hg).ext hx7).away hP hQ (p := ⟨b2, 0, none⟩) hb2 u
end Go.Proofs.YtgjijcgkmofaaaaGreatDoor

/-
  A box of one cell beside an array: what is stored into it does not touch the array; rows of acts. Conditions: none.
-/
namespace Go.Proofs.YtgjijcgkmofaaaaGreatDoor
set_option linter.unusedSimpArgs false
set_option linter.unusedVariables false
open Go.RowKit

theorem SlR.avBox {α : Type} {bytes : Nat} {R : Rd α} {enc : α → List Value} (he : Enc 1 R enc) {w : World} {v : Value} {l : List α} {g : Nat} {t : TypeId} (h : SlR 1 bytes R w v l) (hb : Blk_ w g t #[.slice none 0 0]) (hne : ∀ a, enc a ≠ [.slice none 0 0]) : Av g v := by
  intro b o s n c ev
  by_cases h0 : l.length = 0
  · left
    obtain ⟨A, cap, e, _⟩ := h
    rw [e] at ev
    injection ev with _ h2 _
    omega
  · right
    rintro rfl
    obtain ⟨A, cap, e, _, _, p⟩ := h.rowE he
    obtain ⟨b', o', hA, hc⟩ := p 0 (by omega)
    rw [e, hA] at ev
    injection ev with h1 _ _
    injection h1 with h1
    injection h1 with h1 _ _
    subst h1
    have hl := he.len l[0]
    obtain ⟨u, hu⟩ : ∃ u, enc l[0] = [u] := by
      match henc : enc l[0], hl with
      | [u], _ => exact ⟨u, rfl⟩
    have h3 := hc 0 (by omega) 0 u (by rw [hu]; rfl)
    rw [hb.cell] at h3
    have h4 : u = .slice none 0 0 := by
      cases hq : (o' + 0 * 1 + 0) with
      | zero => rw [hq] at h3; simpa using h3.symm
      | succ q => rw [hq] at h3; simp at h3
    exact hne _ (by rw [hu, h4])
theorem RArr.box {w : World} {v : Value} {a : List Dev} {g : Nat} {t : TypeId} (h : RArr w [v] a) (hb : Blk_ w g t #[.slice none 0 0]) (x : Value) : RArr (w.setCell ⟨g, 0, none⟩ x) [v] a := by
  obtain ⟨v', e, A, cap, hv, hby, hc, hh⟩ := h
  refine ⟨v', e, A, cap, hv, hby, hc, ?_⟩
  rcases hh with hh | ⟨b, o, hA, hh⟩
  · exact .inl hh
  · by_cases h0 : a = []
    · exact .inl h0
    · right
      have hlen : 0 < a.length := List.length_pos_iff.2 h0
      have hbg : b ≠ g := by
        rintro rfl
        obtain ⟨cs, hl, hcell, _⟩ := hh 0 hlen
        have h1 := hcell 1 (by decide)
        rw [hb.cell, List.getElem?_eq_getElem (by omega)] at h1
        have : (o + 0 * 2 + 1) = o + 1 := by omega
        rw [this] at h1
        simp at h1
      refine ⟨b, o, hA, fun i hi => ?_⟩
      obtain ⟨cs, hl, hcell, hr⟩ := hh i hi
      refine ⟨cs, hl, fun j hj => (World.cell?_setCell_other w _ _ x (fun e => hbg (by injection e with e1; exact e1.symm))).trans (hcell j hj), ?_⟩
      obtain ⟨v1, v2, e', h1, h2⟩ := hr
      exact ⟨v1, v2, e', h1.far encStr_ok (h1.avBox encStr_ok hb (fun a h => by simp [encStr] at h)) x, h2.far encBool_ok (h2.avBox encBool_ok hb (fun a h => by simp [encBool] at h)) x⟩
/-- Acts that were laid one behind the other. -/
theorem acts_row {w : World} {g : Nat} {t : TypeId} {l : List HA} (h : Blk_ w g t (l.flatMap encHA).toArray) :
    ∀ (k : Nat) (_ : k < l.length), ∃ b o, (some ⟨g, 0, none⟩ : Option Addr) = some ⟨b, o, none⟩ ∧ ∀ (i : Nat) (hi : i < l.length) (j : Nat) (u : Value), (encHA l[i])[j]? = some u → w.cell? ⟨b, o + i * 7 + j, none⟩ = some u := by
  intro k hk
  refine ⟨g, 0, rfl, fun i hi j u hu => ?_⟩
  have hj : j < 7 := by
    have := (List.getElem?_eq_some_iff.1 hu).1
    exact this
  rw [h.cell, Nat.zero_add, List.getElem?_toArray, flatMap_at (enc := encHA) (C := 7) (fun _ => rfl) l i j hi hj]
  exact hu
theorem lose_one {a : List Dev} {j n : Nat} (h : touchCode (dv a j) n = 0) : loseAll a [⟨4, j, n, 0, 0⟩] = loseA a j n := by
  show loseOne a ⟨4, j, n, 0, 0⟩ = _
  unfold loseOne
  rw [if_pos h]
  rfl
theorem lose_two {a : List Dev} {k : Nat} (h0 : touchCode (dv a 0) k = 0) (h1 : touchCode (dv (loseA a 0 k) 1) k = 0) : loseAll a [⟨4, 0, k, 0, 0⟩, ⟨4, 1, k, 0, 0⟩] = lostBoth a k := by
  show loseOne (loseOne a ⟨4, 0, k, 0, 0⟩) ⟨4, 1, k, 0, 0⟩ = _
  have e : loseOne a ⟨4, 0, k, 0, 0⟩ = loseA a 0 k := by unfold loseOne; rw [if_pos h0]; rfl
  rw [e]
  unfold loseOne
  rw [if_pos h1]
  rfl
end Go.Proofs.YtgjijcgkmofaaaaGreatDoor

/-
  Bytes are read from an array as they were written, and what stands around them stays, in plain Lean: the law StreamsBack. Conditions: the numbers are within the array.
-/
namespace Go.Proofs.YtgjijcgkmofaaaaGreatDoor
set_option linter.unusedSimpArgs false
set_option linter.unusedVariables false
open Go.RowKit

/-- What the sectors tell after a stream was written. -/
def swAll : Nat → Nat → List ByteArray → Nat → ByteArray → List ByteArray
  | 0, _, all, _, _ => all
  | m + 1, i, all, first, s => swAll m (i + 1) (all.set (first + i) (padS (chunk s i))) first s
theorem full_sw {mm : Nat} (h16 : 16 ≤ mm) (h64 : mm ≤ 64) (h2 : mm % 2 = 0) (first : Nat) (s : ByteArray) : ∀ (m i : Nat) (a : List Dev) (all : List ByteArray), Full a mm all → first + i + m ≤ mm → Full (streamWriteLoop m i a first s) mm (swAll m i all first s)
  | 0, _, _, _, h, _ => h
  | m + 1, i, a, all, h, hl => by
    obtain ⟨b, e, hb⟩ := h.write h16 h64 h2 (n := first + i) (by omega) (chunk_size s i)
    rw [swl_succ]
    have e1 : (first : Int) + (i : Int) = ((first + i : Nat) : Int) := by omega
    rw [e1, e]
    exact full_sw h16 h64 h2 first s m (i + 1) b _ hb (by omega)
theorem pl_sw (first : Nat) (s : ByteArray) : ∀ (m i : Nat) (all : List ByteArray) (n : Nat), first + i + m ≤ all.length → pl (swAll m i all first s) n = if first + i ≤ n ∧ n < first + i + m then padS (chunk s (n - first)) else pl all n
  | 0, i, all, n, _ => by rw [if_neg (by omega)]; rfl
  | m + 1, i, all, n, h => by
    show pl (swAll m (i + 1) (all.set (first + i) (padS (chunk s i))) first s) n = _
    rw [pl_sw first s m (i + 1) _ n (by rw [List.length_set]; omega)]
    by_cases h1 : first + (i + 1) ≤ n ∧ n < first + (i + 1) + m
    · rw [if_pos h1, if_pos (by omega)]
    · rw [if_neg h1]
      by_cases h2 : n = first + i
      · subst h2
        rw [if_pos (by omega), pl_set_self (by omega), show first + i - first = i by omega]
      · rw [if_neg (by omega), pl_set_ne _ (fun e => h2 e.symm)]
theorem lst_chunk (s : ByteArray) (j : Nat) : lst (chunk s j) = ((lst s).drop (24 * j)).take 24 := by
  unfold chunk
  rw [lst_extract]
  apply List.ext_getElem?
  intro i
  have hl := length_lst s
  unfold sub_
  simp only [List.getElem?_take, List.getElem?_drop]
  by_cases hi : 24 * j + i < (lst s).length
  · by_cases h24 : i < 24
    · first | (rw [if_pos (by omega), if_pos h24]) | (rw [if_pos h24, if_pos (by omega)])
    · first | (rw [if_neg (by omega), if_neg h24]) | (rw [if_neg h24, if_neg (by omega)])
  · have hn : (lst s)[24 * j + i]? = none := List.getElem?_eq_none (by omega)
    rw [hn]
    simp
theorem pad_chunk (s : ByteArray) (j : Nat) (hj : 24 * j < s.size) : (lst s).take (24 * j) ++ lst (padS (chunk s j)) = (lst s).take (24 * (j + 1)) ++ List.replicate (24 * (j + 1) - s.size) 0 := by
  have hc := lst_chunk s j
  have hl := length_lst s
  have hz : (chunk s j).size = min 24 (s.size - 24 * j) := by rw [← length_lst, hc, List.length_take, List.length_drop, hl]
  unfold padS
  rw [lst_bs, hc, ← List.append_assoc, hz]
  congr 1
  · rw [show 24 * (j + 1) = 24 * j + 24 by omega, List.take_add]
  · congr 1
    omega
theorem srl_back {b : List Dev} {mm : Nat} {all : List ByteArray} (h : Full b mm all) (h16 : 16 ≤ mm) (h64 : mm ≤ 64) (h2 : mm % 2 = 0) (k : Nat) (s : ByteArray) : ∀ (m j : Nat) (acc : ByteArray), (∀ i : Nat, j ≤ i → i < j + m → pl all (k + i) = padS (chunk s i)) → k + j + m ≤ mm → 24 * (j + m) < s.size + 24 →
    lst acc = (lst s).take (24 * j) ++ List.replicate (24 * j - s.size) 0 → ∃ t, streamReadLoop b m ((k + j : Nat) : Int) acc = (t, 0) ∧ lst t = (lst s).take (24 * (j + m)) ++ List.replicate (24 * (j + m) - s.size) 0
  | 0, j, acc, _, _, _, ha => ⟨acc, rfl, ha⟩
  | m + 1, j, acc, hp, hk, hs, ha => by
    have hr := h.read h16 h64 h2 (n := k + j) (by omega)
    rw [loop_next (by rw [hr])]
    rw [hr, hp j (Nat.le_refl _) (by omega)]
    have e1 : ((k + j : Nat) : Int) + 1 = ((k + (j + 1) : Nat) : Int) := by omega
    rw [e1]
    obtain ⟨t, e, ht⟩ := srl_back h h16 h64 h2 k s m (j + 1) (acc ++ padS (chunk s j)) (fun i h1 h2 => hp i (by omega) (by omega)) (by omega) (by omega) (by
      rw [lst_append, ha, show 24 * j - s.size = 0 by omega, List.replicate_zero, List.append_nil]
      exact pad_chunk s j (by omega))
    exact ⟨t, e, by rw [ht, show j + 1 + m = j + (m + 1) by omega]⟩
/-- StreamsBack. -/
theorem keep_stream {a : List Dev} {all : List ByteArray} (h : Full a 40 all) {k : Nat} (hk : k < 40) {s : ByteArray} (hs : s.size ≤ (40 - k) * 24) :
    ∃ b all', streamWriteS a k s = (b, 0) ∧ Full b 40 all' ∧ streamReadS b k s.size = (s, 0) ∧ streamReadS b k (((40 - k) * 24 + 1 : Nat) : Int) = (.empty, 2) ∧ ∀ i : Nat, i < 40 → ¬ (k ≤ i ∧ i < k + (s.size + 23) / 24) → arrReadS b i = (pl all i, 1, 0) := by
  have hmay := h.good.may (by decide) (by decide)
  have hlen : (dv a 0).sec.length = 40 := h.good.l0
  have hf0 : streamFaultS a k s.size = 0 := fault_none hmay ⟨by omega, by omega⟩ (by rw [hlen]; omega)
  have hb := full_sw (by decide) (by decide) (by decide) k s ((s.size + 23) / 24) 0 a all h (by omega)
  have hpl := fun n => pl_sw k s ((s.size + 23) / 24) 0 all n (by rw [h.len]; omega)
  refine ⟨_, _, sw_good hf0, hb, ?_, ?_, fun i hi hn => ?_⟩
  · have hmb := hb.good.may (by decide) (by decide)
    have hlb : (dv (streamWriteLoop ((s.size + 23) / 24) 0 a k s) 0).sec.length = 40 := hb.good.l0
    have hfb : streamFaultS (streamWriteLoop ((s.size + 23) / 24) 0 a k s) k s.size = 0 := fault_none hmb ⟨by omega, by omega⟩ (by rw [hlb]; omega)
    obtain ⟨t, e, ht⟩ := srl_back hb (by decide) (by decide) (by decide) k s ((s.size + 23) / 24) 0 .empty (fun i _ hi => by rw [hpl, if_pos (by omega), show k + i - k = i by omega]) (by omega) (by omega) (by simp [lst_empty])
    rw [sread_good hfb (s := t) (by
      rw [show (((s.size : Int) + 23) / 24).toNat = (s.size + 23) / 24 by omega]
      rw [show ((k + 0 : Nat) : Int) = (k : Int) by omega] at e
      exact e)]
    congr 1
    apply lst_inj
    rw [lst_extract, show ((s.size : Int)).toNat = s.size from rfl]
    unfold sub_
    rw [ht, Nat.zero_add, List.take_of_length_le (show (lst s).length ≤ 24 * ((s.size + 23) / 24) by rw [length_lst]; omega)]
    first | (rw [List.drop_zero, List.take_left' (length_lst s)]) | (rw [List.take_left' (length_lst s), List.drop_zero])
  · have hmb := hb.good.may (by decide) (by decide)
    have hlb : (dv (streamWriteLoop ((s.size + 23) / 24) 0 a k s) 0).sec.length = 40 := hb.good.l0
    have hfb : streamFaultS (streamWriteLoop ((s.size + 23) / 24) 0 a k s) k (((40 - k) * 24 + 1 : Nat) : Int) = 2 := fault_range hmb ⟨by omega, by omega⟩ (by rw [hlb]; omega)
    rw [sread_bad (by rw [hfb]; decide), hfb]
  · rw [hb.read (by decide) (by decide) (by decide) hi, hpl, if_neg (by omega)]
end Go.Proofs.YtgjijcgkmofaaaaGreatDoor
