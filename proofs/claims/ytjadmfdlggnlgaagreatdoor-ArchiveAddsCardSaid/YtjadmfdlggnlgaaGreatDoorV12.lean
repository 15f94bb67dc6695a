/-
  The document's plainly and PackedOf: bytes as they are, and packed. Conditions: the text is short.
-/
import Derived.Test.YtjadmfdlggnlgaaGreatDoorV11
import Derived.Lib.AppendStr
namespace Go.Proofs.YtjadmfdlggnlgaaGreatDoor
set_option linter.unusedSimpArgs false
set_option linter.unusedVariables false
set_option maxRecDepth 100000
set_option maxHeartbeats 8000000
open Go.RowKit
theorem lst_ext0 (s : ByteArray) (n : Nat) : lst (s.extract 0 n) = (lst s).take n := by
 unfold lst; rw [ByteArray.data_extract, Array.toList_extract]; simp [List.extract]
theorem lst_ext (s : ByteArray) (a b : Nat) : lst (s.extract a b) = sub_ s a b := by
 unfold lst sub_
 rw [ByteArray.data_extract, Array.toList_extract]
 simp [List.extract, List.drop_take, lst]
theorem plain_join (s : ByteArray) (n : Nat) (hn : n = min s.size 128) (h0 : 0 < s.size) : bs [byte ((n : Int) - 1)] ++ s.extract 0 n ++ bs (plainF (lst (s.extract n s.size))) = bs (plainF (lst s)) := by
 apply lst_inj
 rw [lst_append, lst_append, lst_bs, lst_bs, lst_bs, lst_ext0, lst_ext]
 have hne : lst s ≠ [] := by intro h; have := length_lst s; rw [h] at this; simp at this; omega
 have hn1 : 1 ≤ n := by omega
 rw [plainF.eq_def (lst s), dif_neg hne, length_lst, ← hn]
 have hb : byte ((n : Int) - 1) = UInt8.ofNat (n - 1) := by
  unfold byte; congr 1; show ((n : Int) - 1).toNat = n - 1; omega
 have ht : (lst s).take n = (lst s).take 128 := by
  by_cases h : s.size ≤ 128
  ·rw [List.take_of_length_le (by rw [length_lst]; omega), List.take_of_length_le (by rw [length_lst]; omega)]
  ·rw [show n = 128 by omega]
 have hd : sub_ s n s.size = (lst s).drop 128 := by
  unfold sub_
  rw [List.take_of_length_le (by rw [length_lst]; omega)]
  by_cases h : s.size ≤ 128
  ·rw [List.drop_of_length_le (by rw [length_lst]; omega), List.drop_of_length_le (by rw [length_lst]; omega)]
  ·rw [show n = 128 by omega]
 rw [hb, ht, hd]
 simp
theorem plain_size (l : List UInt8) : (bs (plainF l)).size = l.length + (l.length + 127) / 128 := by rw [size_bs, plain_len]
theorem plainly_any : ∀ (m : Nat) (s : ByteArray) (w : World), s.size = m → s.size ≤ 600 →
  Calls Tryz.prog 58 #[.string s] w fun e w' => e = .returned (.string (bs (plainF (lst s)))) ∧ Ext w w' := by
 intro m
 induction m using Nat.strongRecOn with
 | ind m ih =>
  intro s w hm hs
  by_cases h0 : s.size = 0
  ·have hf : bs (plainF (lst s)) = .empty := by
    have : lst s = [] := List.eq_nil_of_length_eq_zero (by rw [length_lst]; exact h0)
    rw [this, plain_nil]; rfl
   rw [hf]
   have t1 : ((s.size : Int) == 0) = true := by rw [h0]; rfl
   clear hf h0 ih hm
   go_enter Tryz.func58, Tryz.ntmps58
   go_wp2_with fail
   go_ret
   exact ⟨rfl, Ext.refl _⟩
  ·have t1 : ((s.size : Int) == 0) = false := beq_false_of_ne (by omega)
   have HIH := Lib.hid ih
   have HM := Lib.hid hm
   clear ih hm
   by_cases h128 : 128 < s.size
   ·have t2 : decide ((128 : Int) < (s.size : Int)) = true := by simp; omega
    have hb1 : (128 : Int) ≤ (s.size : Int) := by omega
    obtain ⟨r, hr⟩ : ∃ r, r = s.extract 128 s.size := ⟨_, rfl⟩
    obtain ⟨q, hq⟩ : ∃ q, q = s.extract 0 128 := ⟨_, rfl⟩
    have HQS := Lib.hid (show q.size ≤ 600 by rw [hq, ByteArray.size_extract]; omega)
    have HRS := Lib.hid (show r.size = s.size - 128 by rw [hr, ByteArray.size_extract]; omega)
    have HJ := Lib.hid (show bs [byte 127] ++ q ++ bs (plainF (lst r)) = bs (plainF (lst s)) by rw [hr, hq]; exact plain_join s 128 (by omega) (by omega))
    have HR := Lib.hid hr
    have HQ := Lib.hid hq
    clear hr hq
    have HPL := Lib.hid (show (bs (plainF (lst r))).size ≤ 1200 by
     have := plain_size (lst r)
     rw [length_lst, HRS.out] at this
     omega)
    go_enter Tryz.func58, Tryz.ntmps58
    go_wp2_with fail
    refine wp_region_vals (F := ?_) ?_ [(fun (v : Value) (_ : World) => v = .int .i64 (128 : Int)), (fun (v : Value) (_ : World) => v = .int .i64 127), (fun (v : Value) (_ : World) => v = .int .u8 127), (fun v w => ∃ g, v = .slice (some ⟨g, 0, none⟩) 1 1 ∧ Blk_ w g 5 #[.int .u8 127]), (fun (v : Value) (_ : World) => v = .string (bs [byte 127])), (fun (v : Value) (_ : World) => v = .string s), (fun (v : Value) (_ : World) => v = .int .i64 (128 : Int)), (fun (v : Value) (_ : World) => v = .string (q)), (fun (v : Value) (_ : World) => v = .string (bs [byte 127] ++ q)), (fun (v : Value) (_ : World) => v = .string s), (fun (v : Value) (_ : World) => v = .int .i64 (128 : Int)), (fun (v : Value) (_ : World) => v = .string r), (fun (v : Value) (_ : World) => v = .string (bs (plainF (lst r)))), (fun (v : Value) (_ : World) => v = .string (bs [byte 127] ++ q ++ bs (plainF (lst r)))), (fun (v : Value) (_ : World) => v = .string (bs [byte 127] ++ q ++ bs (plainF (lst r))))] (by kernel_rfl) (by kernel_rfl) ?_ ?_ ?_
    rotate_left
    ·intro vals
     simp only [putAll, Act.put, List.setIfInBounds_toArray, List.set_cons_zero, List.set_cons_succ, Nat.zero_add, Nat.reduceAdd]
     rfl
    ·simp only [List.forall_mem_cons]
     exact ⟨fun _ _ _ h _ => h, fun _ _ _ h _ => h, fun _ _ _ h _ => h, fun _ _ _ h e => (by obtain ⟨g, hg, hb⟩ := h; exact ⟨g, hg, hb.ext e⟩), fun _ _ _ h _ => h, fun _ _ _ h _ => h, fun _ _ _ h _ => h, fun _ _ _ h _ => h, fun _ _ _ h _ => h, fun _ _ _ h _ => h, fun _ _ _ h _ => h, fun _ _ _ h _ => h, fun _ _ _ h _ => h, fun _ _ _ h _ => h, fun _ _ _ h _ => h, fun _ h => (by cases h)⟩
    ·refine ⟨?_, ?_, ?_, ?_, ?_, ?_, ?_, ?_, ?_, ?_, ?_, ?_, ?_, ?_, ?_, trivial⟩
     ·intro vals W e hd ho K hK
      exact st_q hK (by go_simp; rfl)
     ·intro vals W e hd ho K hK
      have h0 : vals 0 = .int .i64 (128 : Int) := hd 0 (by kernel_rfl)
      exact st_q hK (by go_simp; rfl)
     ·intro vals W e hd ho K hK
      have h1 : vals 1 = .int .i64 127 := hd 1 (by kernel_rfl)
      exact st_q hK (by go_simp; rfl)
     ·intro vals W e hd ho K hK
      have h2 : vals 2 = .int .u8 127 := hd 2 (by kernel_rfl)
      go_wp2_with fail
      exact hK _ _ _ (by first | rfl | (simp only [h2]; rfl)) ⟨W.heap.size, rfl, Blk_.new _ _ _⟩ ((Ext.refl W).alloc _)
     ·intro vals W e hd ho K hK
      obtain ⟨g3, h3, b3⟩ := hd 3 (by kernel_rfl)
      refine wp_conv1 (.tmp 14) 47 9 5 rfl Tryz.underlying47 Tryz.underlying5 Tryz.underlying9 g3 _ (by go_simp; try rfl) b3 ?_
      exact hK _ _ _ rfl rfl (Ext.refl _)
     ·intro vals W e hd ho K hK
      exact st_q hK (by go_simp; rfl)
     ·intro vals W e hd ho K hK
      exact st_q hK (by go_simp; rfl)
     ·intro vals W e hd ho K hK
      have h5 : vals 5 = .string s := hd 5 (by kernel_rfl)
      have h6 : vals 6 = .int .i64 (128 : Int) := hd 6 (by kernel_rfl)
      refine st_slice _ (.tmp 16) none (some (.tmp 17)) s 0 128 rfl Tryz.underlying9 h5 rfl h6 (by omega) (by omega) ?_
      exact hK _ _ _ rfl (congrArg Value.string HQ.out.symm) (Ext.refl _)
     ·intro vals W e hd ho K hK
      have h4 : vals 4 = .string (bs [byte 127]) := hd 4 (by kernel_rfl)
      have h7 : vals 7 = .string (q) := hd 7 (by kernel_rfl)
      refine st_concat (.tmp 15) (.tmp 18) _ _ _ _ rfl h4 h7 (by have := HQS.out; rw [size_bs]; simp only [List.length_cons, List.length_nil]; omega) ?_
      exact hK _ _ _ rfl rfl (Ext.refl _)
     ·intro vals W e hd ho K hK
      exact st_q hK (by go_simp; rfl)
     ·intro vals W e hd ho K hK
      exact st_q hK (by go_simp; rfl)
     ·intro vals W e hd ho K hK
      have h9 : vals 9 = .string s := hd 9 (by kernel_rfl)
      have h10 : vals 10 = .int .i64 (128 : Int) := hd 10 (by kernel_rfl)
      refine st_slice _ (.tmp 20) (some (.tmp 21)) none s 128 s.size rfl Tryz.underlying9 h9 h10 rfl (by omega) (by omega) ?_
      exact hK _ _ _ rfl (congrArg Value.string HR.out.symm) (Ext.refl _)
     ·intro vals W e hd ho K hK
      have h11 : vals 11 = .string r := hd 11 (by kernel_rfl)
      go_wp2_with fail
      refine (HIH.out r.size (by have := HM.out; have := HRS.out; omega) r _ rfl (by have := HRS.out; omega)).mono ?_
      rintro e' W' ⟨rfl, h'⟩
      exact hK _ _ _ (by first | rfl | (simp only [h11]; rfl)) rfl h'
     ·intro vals W e hd ho K hK
      have h8 : vals 8 = .string (bs [byte 127] ++ q) := hd 8 (by kernel_rfl)
      have h12 : vals 12 = .string (bs (plainF (lst r))) := hd 12 (by kernel_rfl)
      refine st_concat (.tmp 19) (.tmp 23) _ _ _ _ rfl h8 h12 (by have := HPL.out; have := HQS.out; rw [ByteArray.size_append, size_bs]; simp only [List.length_cons, List.length_nil]; omega) ?_
      exact hK _ _ _ rfl rfl (Ext.refl _)
     ·intro vals W e hd ho K hK
      have h13 : vals 13 = .string (bs [byte 127] ++ q ++ bs (plainF (lst r))) := hd 13 (by kernel_rfl)
      exact st_q hK (by go_simp; rfl)
    intro vals W e hall
    have h14 : vals 14 = .string (bs [byte 127] ++ q ++ bs (plainF (lst r))) := hall 14 (by decide)
    go_wp2_with fail
    go_ret
    rw [HJ.out]
    exact ⟨rfl, (Ext.refl w).drew.trans e⟩
   ·have t2 : decide ((128 : Int) < (s.size : Int)) = false := by simp; omega
    have hb1 : (s.size : Int) ≤ 128 := by omega
    have hb2 : (1 : Int) ≤ (s.size : Int) := by omega
    obtain ⟨r, hr⟩ : ∃ r, r = s.extract s.size s.size := ⟨_, rfl⟩
    obtain ⟨q, hq⟩ : ∃ q, q = s.extract 0 s.size := ⟨_, rfl⟩
    have HQS := Lib.hid (show q.size ≤ 600 by rw [hq, ByteArray.size_extract]; omega)
    have HRS := Lib.hid (show r.size = s.size - s.size by rw [hr, ByteArray.size_extract]; omega)
    have HJ := Lib.hid (show bs [byte ((s.size : Int) - 1)] ++ q ++ bs (plainF (lst r)) = bs (plainF (lst s)) by rw [hr, hq]; exact plain_join s s.size (by omega) (by omega))
    have HR := Lib.hid hr
    have HQ := Lib.hid hq
    clear hr hq
    have HPL := Lib.hid (show (bs (plainF (lst r))).size ≤ 1200 by
     have := plain_size (lst r)
     rw [length_lst, HRS.out] at this
     omega)
    go_enter Tryz.func58, Tryz.ntmps58
    go_wp2_with fail
    refine wp_region_vals (F := ?_) ?_ [(fun (v : Value) (_ : World) => v = .int .i64 (s.size : Int)), (fun (v : Value) (_ : World) => v = .int .i64 ((s.size : Int) - 1)), (fun (v : Value) (_ : World) => v = .int .u8 ((s.size : Int) - 1)), (fun v w => ∃ g, v = .slice (some ⟨g, 0, none⟩) 1 1 ∧ Blk_ w g 5 #[.int .u8 ((s.size : Int) - 1)]), (fun (v : Value) (_ : World) => v = .string (bs [byte ((s.size : Int) - 1)])), (fun (v : Value) (_ : World) => v = .string s), (fun (v : Value) (_ : World) => v = .int .i64 (s.size : Int)), (fun (v : Value) (_ : World) => v = .string (q)), (fun (v : Value) (_ : World) => v = .string (bs [byte ((s.size : Int) - 1)] ++ q)), (fun (v : Value) (_ : World) => v = .string s), (fun (v : Value) (_ : World) => v = .int .i64 (s.size : Int)), (fun (v : Value) (_ : World) => v = .string r), (fun (v : Value) (_ : World) => v = .string (bs (plainF (lst r)))), (fun (v : Value) (_ : World) => v = .string (bs [byte ((s.size : Int) - 1)] ++ q ++ bs (plainF (lst r)))), (fun (v : Value) (_ : World) => v = .string (bs [byte ((s.size : Int) - 1)] ++ q ++ bs (plainF (lst r))))] (by kernel_rfl) (by kernel_rfl) ?_ ?_ ?_
    rotate_left
    ·intro vals
     simp only [putAll, Act.put, List.setIfInBounds_toArray, List.set_cons_zero, List.set_cons_succ, Nat.zero_add, Nat.reduceAdd]
     rfl
    ·simp only [List.forall_mem_cons]
     exact ⟨fun _ _ _ h _ => h, fun _ _ _ h _ => h, fun _ _ _ h _ => h, fun _ _ _ h e => (by obtain ⟨g, hg, hb⟩ := h; exact ⟨g, hg, hb.ext e⟩), fun _ _ _ h _ => h, fun _ _ _ h _ => h, fun _ _ _ h _ => h, fun _ _ _ h _ => h, fun _ _ _ h _ => h, fun _ _ _ h _ => h, fun _ _ _ h _ => h, fun _ _ _ h _ => h, fun _ _ _ h _ => h, fun _ _ _ h _ => h, fun _ _ _ h _ => h, fun _ h => (by cases h)⟩
    ·refine ⟨?_, ?_, ?_, ?_, ?_, ?_, ?_, ?_, ?_, ?_, ?_, ?_, ?_, ?_, ?_, trivial⟩
     ·intro vals W e hd ho K hK
      exact st_q hK (by go_simp; rfl)
     ·intro vals W e hd ho K hK
      have h0 : vals 0 = .int .i64 (s.size : Int) := hd 0 (by kernel_rfl)
      exact st_q hK (by go_simp; rfl)
     ·intro vals W e hd ho K hK
      have h1 : vals 1 = .int .i64 ((s.size : Int) - 1) := hd 1 (by kernel_rfl)
      exact st_q hK (by go_simp; rfl)
     ·intro vals W e hd ho K hK
      have h2 : vals 2 = .int .u8 ((s.size : Int) - 1) := hd 2 (by kernel_rfl)
      go_wp2_with fail
      exact hK _ _ _ (by first | rfl | (simp only [h2]; rfl)) ⟨W.heap.size, rfl, Blk_.new _ _ _⟩ ((Ext.refl W).alloc _)
     ·intro vals W e hd ho K hK
      obtain ⟨g3, h3, b3⟩ := hd 3 (by kernel_rfl)
      refine wp_conv1 (.tmp 14) 47 9 5 rfl Tryz.underlying47 Tryz.underlying5 Tryz.underlying9 g3 _ (by go_simp; try rfl) b3 ?_
      exact hK _ _ _ rfl rfl (Ext.refl _)
     ·intro vals W e hd ho K hK
      exact st_q hK (by go_simp; rfl)
     ·intro vals W e hd ho K hK
      exact st_q hK (by go_simp; rfl)
     ·intro vals W e hd ho K hK
      have h5 : vals 5 = .string s := hd 5 (by kernel_rfl)
      have h6 : vals 6 = .int .i64 (s.size : Int) := hd 6 (by kernel_rfl)
      refine st_slice _ (.tmp 16) none (some (.tmp 17)) s 0 s.size rfl Tryz.underlying9 h5 rfl h6 (by omega) (by omega) ?_
      exact hK _ _ _ rfl (congrArg Value.string HQ.out.symm) (Ext.refl _)
     ·intro vals W e hd ho K hK
      have h4 : vals 4 = .string (bs [byte ((s.size : Int) - 1)]) := hd 4 (by kernel_rfl)
      have h7 : vals 7 = .string (q) := hd 7 (by kernel_rfl)
      refine st_concat (.tmp 15) (.tmp 18) _ _ _ _ rfl h4 h7 (by have := HQS.out; rw [size_bs]; simp only [List.length_cons, List.length_nil]; omega) ?_
      exact hK _ _ _ rfl rfl (Ext.refl _)
     ·intro vals W e hd ho K hK
      exact st_q hK (by go_simp; rfl)
     ·intro vals W e hd ho K hK
      exact st_q hK (by go_simp; rfl)
     ·intro vals W e hd ho K hK
      have h9 : vals 9 = .string s := hd 9 (by kernel_rfl)
      have h10 : vals 10 = .int .i64 (s.size : Int) := hd 10 (by kernel_rfl)
      refine st_slice _ (.tmp 20) (some (.tmp 21)) none s s.size s.size rfl Tryz.underlying9 h9 h10 rfl (by omega) (by omega) ?_
      exact hK _ _ _ rfl (congrArg Value.string HR.out.symm) (Ext.refl _)
     ·intro vals W e hd ho K hK
      have h11 : vals 11 = .string r := hd 11 (by kernel_rfl)
      go_wp2_with fail
      refine (HIH.out r.size (by have := HM.out; have := HRS.out; omega) r _ rfl (by have := HRS.out; omega)).mono ?_
      rintro e' W' ⟨rfl, h'⟩
      exact hK _ _ _ (by first | rfl | (simp only [h11]; rfl)) rfl h'
     ·intro vals W e hd ho K hK
      have h8 : vals 8 = .string (bs [byte ((s.size : Int) - 1)] ++ q) := hd 8 (by kernel_rfl)
      have h12 : vals 12 = .string (bs (plainF (lst r))) := hd 12 (by kernel_rfl)
      refine st_concat (.tmp 19) (.tmp 23) _ _ _ _ rfl h8 h12 (by have := HPL.out; have := HQS.out; rw [ByteArray.size_append, size_bs]; simp only [List.length_cons, List.length_nil]; omega) ?_
      exact hK _ _ _ rfl rfl (Ext.refl _)
     ·intro vals W e hd ho K hK
      have h13 : vals 13 = .string (bs [byte ((s.size : Int) - 1)] ++ q ++ bs (plainF (lst r))) := hd 13 (by kernel_rfl)
      exact st_q hK (by go_simp; rfl)
    intro vals W e hall
    have h14 : vals 14 = .string (bs [byte ((s.size : Int) - 1)] ++ q ++ bs (plainF (lst r))) := hall 14 (by decide)
    go_wp2_with fail
    go_ret
    rw [HJ.out]
    exact ⟨rfl, (Ext.refl w).drew.trans e⟩
theorem pack_plain {s : ByteArray} {o : List UInt8} {f i : Nat} (h : i < s.size) (h2 : (pieceF s i 1 0 0).1 < 4) : packF s o f i = packF s o f (i + 1) := by
 rw [packF, dif_pos h, dif_pos h2]
theorem pack_piece {s : ByteArray} {o : List UInt8} {f i n d : Nat} (h : i < s.size) (hp : pieceF s i 1 0 0 = (n, d)) (h2 : ¬ n < 4) : packF s o f i = packF s (o ++ plainF (sub_ s f i) ++ [UInt8.ofNat (124 + n), UInt8.ofNat d]) (i + n) (i + n) := by
 rw [packF, dif_pos h, hp, dif_neg h2]
theorem pack_stop {s : ByteArray} {o : List UInt8} {f i : Nat} (h : ¬ i < s.size) : packF s o f i = o ++ plainF (sub_ s f s.size) := by
 rw [packF, dif_neg h]
theorem bs_app (a b : List UInt8) : bs a ++ bs b = bs (a ++ b) := by apply lst_inj; rw [lst_append, lst_bs, lst_bs, lst_bs]
theorem plain_len2 (l : List UInt8) : (plainF l).length ≤ 2 * l.length := by rw [plain_len]; omega
theorem byte_124 (n : Nat) : byte (124 + (n : Int)) = UInt8.ofNat (124 + n) := by unfold byte; congr 1
theorem byte_cast (n : Nat) : byte (n : Int) = UInt8.ofNat n := by unfold byte; congr 1
theorem packedOf_any (s : ByteArray) (w : World) :
  Calls Tryz.prog 24 #[.string s] w fun e w' => e = .returned (.tuple #[.string (packS s).1, .int .i64 (packS s).2]) ∧ Ext w w' := by
 by_cases hs : 600 < s.size
 ·have hf : packS s = (.empty, 1) := by unfold packS; rw [if_pos hs]
  rw [hf]
  have t1 : decide ((600 : Int) < (s.size : Int)) = true := by simp; omega
  clear hs hf
  go_enter Tryz.func24, Tryz.ntmps24
  go_wp2_with fail
  go_ret2
  exact ⟨rfl, Ext.refl _⟩
 ·have hf : packS s = (bs (packF s [] 0 0), 0) := by unfold packS; rw [if_neg hs]
  rw [hf]
  have t1 : decide ((600 : Int) < (s.size : Int)) = false := by simp; omega
  have hs' : s.size ≤ 600 := by omega
  have hsI : (s.size : Int) ≤ 600 := by omega
  clear hs hf
  go_enter Tryz.func24, Tryz.ntmps24
  go_wp2_with fail
  go_loopw [4, 5, 6] (fun o f i wr => ∃ (ol : List UInt8) (fn n : Nat), o = .string (bs ol) ∧ f = .int .i64 fn ∧ i = .int .i64 n ∧ fn ≤ n ∧ n ≤ s.size ∧ ol.length ≤ 2 * fn ∧ Ext w wr ∧ packF s ol fn n = packF s [] 0 0) (fun _ _ i _ => s.size - (intOf i).toNat)
  case atStart => exact ⟨[], 0, 0, rfl, rfl, rfl, by omega, by omega, by simp, Ext.refl _, rfl⟩
  case round =>
   obtain ⟨ol, f, i, rfl, rfl, rfl, hfi, his, hol, hx, heq⟩ := hrel
   have HEQ := Lib.hid heq
   have HOL := Lib.hid hol
   have HFI := Lib.hid hfi
   clear heq hol
   by_cases hi : i < s.size
   ·have t2 : decide ((i : Int) < (s.size : Int)) = true := by simp; omega
    have hiI : (i : Int) < (s.size : Int) := by omega
    have hi6 : (i : Int) < 600 := by omega
    have HI := Lib.hid hi
    clear hfi
    go_wp2_with fail
    go_loopw [7, 8, 9] (fun b bk dd wq => ∃ (d best back : Nat), dd = .int .i64 d ∧ b = .int .i64 best ∧ bk = .int .i64 back ∧ 1 ≤ d ∧ d ≤ 256 ∧ d ≤ i + 1 ∧ best ≤ 131 ∧ back ≤ 255 ∧ Ext wr wq ∧ pieceF s i d best back = pieceF s i 1 0 0) (fun _ _ dd _ => 256 - (intOf dd).toNat)
    case atStart => exact ⟨1, 0, 0, rfl, rfl, rfl, by omega, by omega, by omega, by omega, by omega, Ext.refl _, rfl⟩
    case round =>
     obtain ⟨d, best, back, rfl, rfl, rfl, hd1, hd2, hd3, hb1, hb2, hxq, heqp⟩ := hrel
     have HEP := Lib.hid heqp
     clear heqp
     by_cases hc1 : d ≤ 255
     ·have q1 : decide ((d : Int) ≤ 255) = true := by simp; omega
      by_cases hc2 : d ≤ i
      ·have q2 : decide ((d : Int) ≤ (i : Int)) = true := by simp; omega
       obtain ⟨k, hk⟩ : ∃ k : Nat, k = i - d := ⟨_, rfl⟩
       have hsb : IntKind.i64.wrap ((i : Int) - (d : Int)) = (k : Int) := by rw [IntKind.wrap_i64]; omega
       have hsb2 : (i : Int) - (d : Int) = (k : Int) := by omega
       have HK := Lib.hid (And.intro hk (And.intro hc1 hc2))
       have hklt : k < i := by omega
       have hil : i < s.size := hi
       clear hk hc2
       obtain ⟨al, hal⟩ : ∃ al, al = alikeF s k i 0 := ⟨_, rfl⟩
       have hal131 : al ≤ 131 := by rw [hal]; exact (alikeF_le s k i 0 (by omega)).2
       have HAL := Lib.hid hal
       clear hal
       by_cases hbt : best < al
       ·have q3 : decide ((best : Int) < (al : Int)) = true := by simp; omega
        have HNX := Lib.hid (show pieceF s i (d + 1) al d = pieceF s i 1 0 0 by rw [← HEP.out, piece_more HK.out.2 (by rw [← HK.out.1, ← HAL.out]; exact hbt), ← HK.out.1, ← HAL.out])
        clear hi q3
        go_wp2_with fail
        refine (alike_any s k i _ hklt hil hs').mono ?_
        rintro e' w1 ⟨rfl, hx1⟩
        rw [← HAL.out]
        go_wp2_with fail
        go_roundw
        case rel => exact ⟨d + 1, al, d, by go_num, rfl, rfl, by omega, by omega, by have := HK.out; omega, by omega, by omega, hxq.trans hx1, HNX.out⟩
        case measure => (simp [intOf]; try omega)
       ·have q3 : decide ((best : Int) < (al : Int)) = false := by simp; omega
        have HNX := Lib.hid (show pieceF s i (d + 1) best back = pieceF s i 1 0 0 by rw [← HEP.out, piece_less HK.out.2 (by rw [← HK.out.1, ← HAL.out]; exact hbt)])
        clear hi q3
        go_wp2_with fail
        refine (alike_any s k i _ hklt hil hs').mono ?_
        rintro e' w1 ⟨rfl, hx1⟩
        rw [← HAL.out]
        go_wp2_with fail
        go_roundw
        case rel => exact ⟨d + 1, best, back, by go_num, rfl, rfl, by omega, by omega, by have := HK.out; omega, by omega, by omega, hxq.trans hx1, HNX.out⟩
        case measure => (simp [intOf]; try omega)
      ·have q2 : decide ((d : Int) ≤ (i : Int)) = false := by simp; omega
       have HPE0 := Lib.hid (show pieceF s i 1 0 0 = (best, back) by rw [← HEP.out]; exact piece_end (fun h => hc2 h.2))
       obtain ⟨n, hn⟩ : ∃ n, n = best := ⟨_, rfl⟩
       obtain ⟨d', hd'⟩ : ∃ d', d' = back := ⟨_, rfl⟩
       have HPE := HPE0
       rw [← hn, ← hd'] at HPE
       rw [← hn, ← hd']
       have hd255 : (d' : Int) ≤ 255 := by omega
       have hx2 : Ext w wr := hx.trans hxq
       clear q2 hi HEP HPE0 hn hd' hb1 hb2 hd1 hd2 hd3 
       by_cases h4 : n < 4
       ·have t3 : decide ((n : Int) < 4) = true := by simp; omega
        have HNX := Lib.hid (show packF s ol f (i + 1) = packF s [] 0 0 by rw [← HEQ.out]; exact (pack_plain HI.out (by rw [HPE.out]; exact h4)).symm)
        clear h4
        go_wp2_with fail
        go_roundw
        case rel => exact ⟨ol, f, i + 1, rfl, rfl, by first | rfl | go_num, by have := HFI.out; omega, by have := HI.out; omega, HOL.out, hx2, HNX.out⟩
        case measure => have := HI.out; (simp [intOf]; try omega)
       ·have t3 : decide ((n : Int) < 4) = false := by simp; omega
        obtain ⟨r, hr⟩ : ∃ r, r = s.extract f i := ⟨_, rfl⟩
        have HRS := Lib.hid (show r.size = i - f by rw [hr, ByteArray.size_extract]; have := HI.out; omega)
        have HRL := Lib.hid (show lst r = sub_ s f i by rw [hr]; exact lst_ext s f i)
        have HR := Lib.hid hr
        have HPL := Lib.hid (show (plainF (lst r)).length ≤ 2 * (i - f) by have := plain_len2 (lst r); rw [length_lst, HRS.out] at this; exact this)
        have HB := Lib.hid (piece_le s i (by have := HI.out; omega))
        have HN := Lib.hid (show n ≤ 131 ∧ i + n ≤ s.size by have := HB.out; rw [HPE.out] at this; exact this)
        have HNX := Lib.hid (show packF s (ol ++ plainF (lst r) ++ [UInt8.ofNat (124 + n), UInt8.ofNat d']) (i + n) (i + n) = packF s [] 0 0 by rw [← HEQ.out, HRL.out]; exact (pack_piece HI.out HPE.out h4).symm)
        have HLEN := Lib.hid (show (ol ++ plainF (lst r) ++ [UInt8.ofNat (124 + n), UInt8.ofNat d']).length ≤ 2 * (i + n) by
         have h1 := HOL.out; have h2 := HPL.out; have h3 := HFI.out
         rw [List.length_append, List.length_append]; simp only [List.length_cons, List.length_nil]; omega)
        have HJ := Lib.hid (show bs ol ++ bs (plainF (lst r)) ++ bs [byte (124 + (n : Int)), byte (d' : Int)] = bs (ol ++ plainF (lst r) ++ [UInt8.ofNat (124 + n), UInt8.ofNat d']) by rw [bs_app, bs_app, byte_124, byte_cast])
        have hfi := HFI.out
        have hn131 : (n : Int) ≤ 131 := by have := HN.out.1; omega
        have hN4 := Lib.hid h4
        clear hr h4
        go_wp2_with fail
        refine wp_region_vals (F := ?_) ?_ [(fun (v : Value) (_ : World) => v = .string (bs ol)), (fun (v : Value) (_ : World) => v = .string s), (fun (v : Value) (_ : World) => v = .int .i64 (f : Int)), (fun (v : Value) (_ : World) => v = .int .i64 (i : Int)), (fun (v : Value) (_ : World) => v = .string r), (fun (v : Value) (_ : World) => v = .string (bs (plainF (lst r)))), (fun (v : Value) (_ : World) => v = .string (bs ol ++ bs (plainF (lst r)))), (fun (v : Value) (_ : World) => v = .int .i64 (n : Int)), (fun (v : Value) (_ : World) => v = .int .i64 (124 + (n : Int))), (fun (v : Value) (_ : World) => v = .int .u8 (124 + (n : Int))), (fun (v : Value) (_ : World) => v = .int .i64 (d' : Int)), (fun (v : Value) (_ : World) => v = .int .u8 (d' : Int)), (fun v w => ∃ g, v = .slice (some ⟨g, 0, none⟩) 2 2 ∧ Blk_ w g 5 #[.int .u8 (124 + (n : Int)), .int .u8 (d' : Int)]), (fun (v : Value) (_ : World) => v = .string (bs [byte (124 + (n : Int)), byte (d' : Int)])), (fun (v : Value) (_ : World) => v = .string (bs ol ++ bs (plainF (lst r)) ++ bs [byte (124 + (n : Int)), byte (d' : Int)])), (fun (v : Value) (_ : World) => v = .string (bs ol ++ bs (plainF (lst r)) ++ bs [byte (124 + (n : Int)), byte (d' : Int)]))] (by kernel_rfl) (by kernel_rfl) ?_ ?_ ?_
        rotate_left
        ·intro vals
         simp only [putAll, Act.put, List.setIfInBounds_toArray, List.set_cons_zero, List.set_cons_succ, Nat.zero_add, Nat.reduceAdd]
         rfl
        ·simp only [List.forall_mem_cons]
         exact ⟨fun _ _ _ h _ => h, fun _ _ _ h _ => h, fun _ _ _ h _ => h, fun _ _ _ h _ => h, fun _ _ _ h _ => h, fun _ _ _ h _ => h, fun _ _ _ h _ => h, fun _ _ _ h _ => h, fun _ _ _ h _ => h, fun _ _ _ h _ => h, fun _ _ _ h _ => h, fun _ _ _ h _ => h, fun _ _ _ h e => (by obtain ⟨g, hg, hb⟩ := h; exact ⟨g, hg, hb.ext e⟩), fun _ _ _ h _ => h, fun _ _ _ h _ => h, fun _ _ _ h _ => h, fun _ h => (by cases h)⟩
        ·refine ⟨?_, ?_, ?_, ?_, ?_, ?_, ?_, ?_, ?_, ?_, ?_, ?_, ?_, ?_, ?_, ?_, trivial⟩
         ·intro vals W e HD ho K hK
          have o15 : vals 15 = .string (bs ol) := ho 15 (by kernel_rfl)
          exact st_q hK (by go_simp; rfl)
         ·intro vals W e HD ho K hK
          exact st_q hK (by go_simp; rfl)
         ·intro vals W e HD ho K hK
          exact st_q hK (by go_simp; rfl)
         ·intro vals W e HD ho K hK
          exact st_q hK (by go_simp; rfl)
         ·intro vals W e HD ho K hK
          have h1 : vals 1 = .string s := HD 1 (by kernel_rfl)
          have h2 : vals 2 = .int .i64 (f : Int) := HD 2 (by kernel_rfl)
          have h3 : vals 3 = .int .i64 (i : Int) := HD 3 (by kernel_rfl)
          refine st_slice _ (.tmp 43) (some (.tmp 44)) (some (.tmp 45)) s f i rfl Tryz.underlying9 h1 h2 h3 (by omega) (by omega) ?_
          exact hK _ _ _ rfl (congrArg Value.string HR.out.symm) (Ext.refl _)
         ·intro vals W e HD ho K hK
          have h4 : vals 4 = .string r := HD 4 (by kernel_rfl)
          go_wp2_with fail
          refine (plainly_any r.size r _ rfl (by have := HRS.out; omega)).mono ?_
          rintro e' W' ⟨rfl, h'⟩
          exact hK _ _ _ (by first | rfl | (simp only [h4]; rfl)) rfl h'
         ·intro vals W e HD ho K hK
          have h0 : vals 0 = .string (bs ol) := HD 0 (by kernel_rfl)
          have h5 : vals 5 = .string (bs (plainF (lst r))) := HD 5 (by kernel_rfl)
          refine st_concat (.tmp 42) (.tmp 47) _ _ _ _ rfl h0 h5 (by have := HOL.out; have := HPL.out; rw [size_bs, size_bs]; omega) ?_
          exact hK _ _ _ rfl rfl (Ext.refl _)
         ·intro vals W e HD ho K hK
          exact st_q hK (by go_simp; rfl)
         ·intro vals W e HD ho K hK
          have h7 : vals 7 = .int .i64 (n : Int) := HD 7 (by kernel_rfl)
          exact st_q hK (by go_simp; rfl)
         ·intro vals W e HD ho K hK
          have h8 : vals 8 = .int .i64 (124 + (n : Int)) := HD 8 (by kernel_rfl)
          exact st_q hK (by go_simp; rfl)
         ·intro vals W e HD ho K hK
          exact st_q hK (by go_simp; rfl)
         ·intro vals W e HD ho K hK
          have h10 : vals 10 = .int .i64 (d' : Int) := HD 10 (by kernel_rfl)
          exact st_q hK (by go_simp; rfl)
         ·intro vals W e HD ho K hK
          have h9 : vals 9 = .int .u8 (124 + (n : Int)) := HD 9 (by kernel_rfl)
          have h11 : vals 11 = .int .u8 (d' : Int) := HD 11 (by kernel_rfl)
          go_wp2_with fail
          exact hK _ _ _ (by first | rfl | (simp only [h9, h11]; rfl)) ⟨W.heap.size, rfl, Blk_.new _ _ _⟩ ((Ext.refl W).alloc _)
         ·intro vals W e HD ho K hK
          obtain ⟨g12, h12, b12⟩ := HD 12 (by kernel_rfl)
          refine wp_conv2 (.tmp 54) 47 9 5 rfl Tryz.underlying47 Tryz.underlying5 Tryz.underlying9 g12 _ _ (by go_simp; try rfl) b12 ?_
          exact hK _ _ _ rfl rfl (Ext.refl _)
         ·intro vals W e HD ho K hK
          have h6 : vals 6 = .string (bs ol ++ bs (plainF (lst r))) := HD 6 (by kernel_rfl)
          have h13 : vals 13 = .string (bs [byte (124 + (n : Int)), byte (d' : Int)]) := HD 13 (by kernel_rfl)
          refine st_concat (.tmp 48) (.tmp 55) _ _ _ _ rfl h6 h13 (by have := HOL.out; have := HPL.out; rw [ByteArray.size_append, size_bs, size_bs, size_bs]; simp only [List.length_cons, List.length_nil]; omega) ?_
          exact hK _ _ _ rfl rfl (Ext.refl _)
         ·intro vals W e HD ho K hK
          have h14 : vals 14 = .string (bs ol ++ bs (plainF (lst r)) ++ bs [byte (124 + (n : Int)), byte (d' : Int)]) := HD 14 (by kernel_rfl)
          exact st_q hK (by go_simp; rfl)
        intro vals W e hall
        have h15 : vals 15 = .string (bs ol ++ bs (plainF (lst r)) ++ bs [byte (124 + (n : Int)), byte (d' : Int)]) := hall 15 (by decide)
        rw [HJ.out] at h15
        clear hall
        go_wp2_with fail
        go_roundw
        case rel => exact ⟨_, i + n, i + n, h15, by first | rfl | go_num, by first | rfl | go_num, by omega, HN.out.2, HLEN.out, hx2.drew.trans e, HNX.out⟩
        case measure => have := HI.out; have := hN4.out; (simp [intOf]; try omega)
     ·have q1 : decide ((d : Int) ≤ 255) = false := by simp; omega
      have HPE0 := Lib.hid (show pieceF s i 1 0 0 = (best, back) by rw [← HEP.out]; exact piece_end (fun h => hc1 h.1))
      obtain ⟨n, hn⟩ : ∃ n, n = best := ⟨_, rfl⟩
      obtain ⟨d', hd'⟩ : ∃ d', d' = back := ⟨_, rfl⟩
      have HPE := HPE0
      rw [← hn, ← hd'] at HPE
      rw [← hn, ← hd']
      have hd255 : (d' : Int) ≤ 255 := by omega
      have hx2 : Ext w wr := hx.trans hxq
      clear hc1 hi HEP HPE0 hn hd' hb1 hb2 hd1 hd2 hd3
      by_cases h4 : n < 4
      ·have t3 : decide ((n : Int) < 4) = true := by simp; omega
       have HNX := Lib.hid (show packF s ol f (i + 1) = packF s [] 0 0 by rw [← HEQ.out]; exact (pack_plain HI.out (by rw [HPE.out]; exact h4)).symm)
       clear h4
       go_wp2_with fail
       go_roundw
       case rel => exact ⟨ol, f, i + 1, rfl, rfl, by first | rfl | go_num, by have := HFI.out; omega, by have := HI.out; omega, HOL.out, hx2, HNX.out⟩
       case measure => have := HI.out; (simp [intOf]; try omega)
      ·have t3 : decide ((n : Int) < 4) = false := by simp; omega
       obtain ⟨r, hr⟩ : ∃ r, r = s.extract f i := ⟨_, rfl⟩
       have HRS := Lib.hid (show r.size = i - f by rw [hr, ByteArray.size_extract]; have := HI.out; omega)
       have HRL := Lib.hid (show lst r = sub_ s f i by rw [hr]; exact lst_ext s f i)
       have HR := Lib.hid hr
       have HPL := Lib.hid (show (plainF (lst r)).length ≤ 2 * (i - f) by have := plain_len2 (lst r); rw [length_lst, HRS.out] at this; exact this)
       have HB := Lib.hid (piece_le s i (by have := HI.out; omega))
       have HN := Lib.hid (show n ≤ 131 ∧ i + n ≤ s.size by have := HB.out; rw [HPE.out] at this; exact this)
       have HNX := Lib.hid (show packF s (ol ++ plainF (lst r) ++ [UInt8.ofNat (124 + n), UInt8.ofNat d']) (i + n) (i + n) = packF s [] 0 0 by rw [← HEQ.out, HRL.out]; exact (pack_piece HI.out HPE.out h4).symm)
       have HLEN := Lib.hid (show (ol ++ plainF (lst r) ++ [UInt8.ofNat (124 + n), UInt8.ofNat d']).length ≤ 2 * (i + n) by
        have h1 := HOL.out; have h2 := HPL.out; have h3 := HFI.out
        rw [List.length_append, List.length_append]; simp only [List.length_cons, List.length_nil]; omega)
       have HJ := Lib.hid (show bs ol ++ bs (plainF (lst r)) ++ bs [byte (124 + (n : Int)), byte (d' : Int)] = bs (ol ++ plainF (lst r) ++ [UInt8.ofNat (124 + n), UInt8.ofNat d']) by rw [bs_app, bs_app, byte_124, byte_cast])
       have hfi := HFI.out
       have hn131 : (n : Int) ≤ 131 := by have := HN.out.1; omega
       have hN4 := Lib.hid h4
       clear hr h4
       go_wp2_with fail
       refine wp_region_vals (F := ?_) ?_ [(fun (v : Value) (_ : World) => v = .string (bs ol)), (fun (v : Value) (_ : World) => v = .string s), (fun (v : Value) (_ : World) => v = .int .i64 (f : Int)), (fun (v : Value) (_ : World) => v = .int .i64 (i : Int)), (fun (v : Value) (_ : World) => v = .string r), (fun (v : Value) (_ : World) => v = .string (bs (plainF (lst r)))), (fun (v : Value) (_ : World) => v = .string (bs ol ++ bs (plainF (lst r)))), (fun (v : Value) (_ : World) => v = .int .i64 (n : Int)), (fun (v : Value) (_ : World) => v = .int .i64 (124 + (n : Int))), (fun (v : Value) (_ : World) => v = .int .u8 (124 + (n : Int))), (fun (v : Value) (_ : World) => v = .int .i64 (d' : Int)), (fun (v : Value) (_ : World) => v = .int .u8 (d' : Int)), (fun v w => ∃ g, v = .slice (some ⟨g, 0, none⟩) 2 2 ∧ Blk_ w g 5 #[.int .u8 (124 + (n : Int)), .int .u8 (d' : Int)]), (fun (v : Value) (_ : World) => v = .string (bs [byte (124 + (n : Int)), byte (d' : Int)])), (fun (v : Value) (_ : World) => v = .string (bs ol ++ bs (plainF (lst r)) ++ bs [byte (124 + (n : Int)), byte (d' : Int)])), (fun (v : Value) (_ : World) => v = .string (bs ol ++ bs (plainF (lst r)) ++ bs [byte (124 + (n : Int)), byte (d' : Int)]))] (by kernel_rfl) (by kernel_rfl) ?_ ?_ ?_
       rotate_left
       ·intro vals
        simp only [putAll, Act.put, List.setIfInBounds_toArray, List.set_cons_zero, List.set_cons_succ, Nat.zero_add, Nat.reduceAdd]
        rfl
       ·simp only [List.forall_mem_cons]
        exact ⟨fun _ _ _ h _ => h, fun _ _ _ h _ => h, fun _ _ _ h _ => h, fun _ _ _ h _ => h, fun _ _ _ h _ => h, fun _ _ _ h _ => h, fun _ _ _ h _ => h, fun _ _ _ h _ => h, fun _ _ _ h _ => h, fun _ _ _ h _ => h, fun _ _ _ h _ => h, fun _ _ _ h _ => h, fun _ _ _ h e => (by obtain ⟨g, hg, hb⟩ := h; exact ⟨g, hg, hb.ext e⟩), fun _ _ _ h _ => h, fun _ _ _ h _ => h, fun _ _ _ h _ => h, fun _ h => (by cases h)⟩
       ·refine ⟨?_, ?_, ?_, ?_, ?_, ?_, ?_, ?_, ?_, ?_, ?_, ?_, ?_, ?_, ?_, ?_, trivial⟩
        ·intro vals W e HD ho K hK
         have o15 : vals 15 = .string (bs ol) := ho 15 (by kernel_rfl)
         exact st_q hK (by go_simp; rfl)
        ·intro vals W e HD ho K hK
         exact st_q hK (by go_simp; rfl)
        ·intro vals W e HD ho K hK
         exact st_q hK (by go_simp; rfl)
        ·intro vals W e HD ho K hK
         exact st_q hK (by go_simp; rfl)
        ·intro vals W e HD ho K hK
         have h1 : vals 1 = .string s := HD 1 (by kernel_rfl)
         have h2 : vals 2 = .int .i64 (f : Int) := HD 2 (by kernel_rfl)
         have h3 : vals 3 = .int .i64 (i : Int) := HD 3 (by kernel_rfl)
         refine st_slice _ (.tmp 43) (some (.tmp 44)) (some (.tmp 45)) s f i rfl Tryz.underlying9 h1 h2 h3 (by omega) (by omega) ?_
         exact hK _ _ _ rfl (congrArg Value.string HR.out.symm) (Ext.refl _)
        ·intro vals W e HD ho K hK
         have h4 : vals 4 = .string r := HD 4 (by kernel_rfl)
         go_wp2_with fail
         refine (plainly_any r.size r _ rfl (by have := HRS.out; omega)).mono ?_
         rintro e' W' ⟨rfl, h'⟩
         exact hK _ _ _ (by first | rfl | (simp only [h4]; rfl)) rfl h'
        ·intro vals W e HD ho K hK
         have h0 : vals 0 = .string (bs ol) := HD 0 (by kernel_rfl)
         have h5 : vals 5 = .string (bs (plainF (lst r))) := HD 5 (by kernel_rfl)
         refine st_concat (.tmp 42) (.tmp 47) _ _ _ _ rfl h0 h5 (by have := HOL.out; have := HPL.out; rw [size_bs, size_bs]; omega) ?_
         exact hK _ _ _ rfl rfl (Ext.refl _)
        ·intro vals W e HD ho K hK
         exact st_q hK (by go_simp; rfl)
        ·intro vals W e HD ho K hK
         have h7 : vals 7 = .int .i64 (n : Int) := HD 7 (by kernel_rfl)
         exact st_q hK (by go_simp; rfl)
        ·intro vals W e HD ho K hK
         have h8 : vals 8 = .int .i64 (124 + (n : Int)) := HD 8 (by kernel_rfl)
         exact st_q hK (by go_simp; rfl)
        ·intro vals W e HD ho K hK
         exact st_q hK (by go_simp; rfl)
        ·intro vals W e HD ho K hK
         have h10 : vals 10 = .int .i64 (d' : Int) := HD 10 (by kernel_rfl)
         exact st_q hK (by go_simp; rfl)
        ·intro vals W e HD ho K hK
         have h9 : vals 9 = .int .u8 (124 + (n : Int)) := HD 9 (by kernel_rfl)
         have h11 : vals 11 = .int .u8 (d' : Int) := HD 11 (by kernel_rfl)
         go_wp2_with fail
         exact hK _ _ _ (by first | rfl | (simp only [h9, h11]; rfl)) ⟨W.heap.size, rfl, Blk_.new _ _ _⟩ ((Ext.refl W).alloc _)
        ·intro vals W e HD ho K hK
         obtain ⟨g12, h12, b12⟩ := HD 12 (by kernel_rfl)
         refine wp_conv2 (.tmp 54) 47 9 5 rfl Tryz.underlying47 Tryz.underlying5 Tryz.underlying9 g12 _ _ (by go_simp; try rfl) b12 ?_
         exact hK _ _ _ rfl rfl (Ext.refl _)
        ·intro vals W e HD ho K hK
         have h6 : vals 6 = .string (bs ol ++ bs (plainF (lst r))) := HD 6 (by kernel_rfl)
         have h13 : vals 13 = .string (bs [byte (124 + (n : Int)), byte (d' : Int)]) := HD 13 (by kernel_rfl)
         refine st_concat (.tmp 48) (.tmp 55) _ _ _ _ rfl h6 h13 (by have := HOL.out; have := HPL.out; rw [ByteArray.size_append, size_bs, size_bs, size_bs]; simp only [List.length_cons, List.length_nil]; omega) ?_
         exact hK _ _ _ rfl rfl (Ext.refl _)
        ·intro vals W e HD ho K hK
         have h14 : vals 14 = .string (bs ol ++ bs (plainF (lst r)) ++ bs [byte (124 + (n : Int)), byte (d' : Int)]) := HD 14 (by kernel_rfl)
         exact st_q hK (by go_simp; rfl)
       intro vals W e hall
       have h15 : vals 15 = .string (bs ol ++ bs (plainF (lst r)) ++ bs [byte (124 + (n : Int)), byte (d' : Int)]) := hall 15 (by decide)
       rw [HJ.out] at h15
       clear hall
       go_wp2_with fail
       go_roundw
       case rel => exact ⟨_, i + n, i + n, h15, by first | rfl | go_num, by first | rfl | go_num, by omega, HN.out.2, HLEN.out, hx2.drew.trans e, HNX.out⟩
       case measure => have := HI.out; have := hN4.out; (simp [intOf]; try omega)
   ·have t2 : decide ((i : Int) < (s.size : Int)) = false := by simp; omega
    have hie : i = s.size := by omega
    obtain ⟨r, hr⟩ : ∃ r, r = s.extract f s.size := ⟨_, rfl⟩
    have HRS := Lib.hid (show r.size = s.size - f by rw [hr, ByteArray.size_extract]; omega)
    have HFIN := Lib.hid (show bs ol ++ bs (plainF (lst r)) = bs (packF s [] 0 0) by rw [bs_app, ← HEQ.out, pack_stop hi, hr, lst_ext])
    have HPL := Lib.hid (show (plainF (lst r)).length ≤ 2 * (s.size - f) by have := plain_len2 (lst r); rw [length_lst, HRS.out] at this; exact this)
    have HR := Lib.hid hr
    have hfs : (f : Int) ≤ (s.size : Int) := by omega
    have hfs' : (f : Int) ≤ 600 := by omega
    have hf0 : f ≤ s.size := by omega
    have hcc : ¬ (9223372036854775807 < ol.length + (plainF (lst r)).length) := by have := HOL.out; have := HPL.out; omega
    clear hie t2 hr hfi
    go_wp2_with fail
    rw [← HR.out]
    refine (plainly_any r.size r _ rfl (by have := HRS.out; omega)).mono ?_
    rintro e' W' ⟨rfl, h'⟩
    go_wp2_with fail
    go_ret2
    exact ⟨by rw [HFIN.out]; rfl, hx.trans h'⟩
structure PBx (w0 w : World) (gs gb gp base : Nat) (s : ByteArray) (B : Value) (p : Nat) : Prop where
 ext : Ext w0 w
 ls : w0.heap.size ≤ gs
 lb : w0.heap.size ≤ gb
 lp : w0.heap.size ≤ gp
 bs_ : gs < base
 bb : gb < base
 bp : gp < base
 nbs : gb ≠ gs
 nps : gp ≠ gs
 nbp : gb ≠ gp
 sz : base ≤ w.heap.size
 box : Blk_ w gs 9 #[.string s]
 buf : Blk_ w gb 47 #[B]
 pl : Blk_ w gp 3 #[.int .i64 (p : Int)]
theorem PBx.grown {w0 w w' : World} {gs gb gp base : Nat} {s : ByteArray} {B : Value} {p : Nat} (h : PBx w0 w gs gb gp base s B p) {row : Option Nat} (hg : w.grownBy w' row) (hr : ∀ k, row = some k → base ≤ k) : PBx w0 w' gs gb gp base s B p where
 ext := h.ext.grown hg (fun k hk => by have := hr k hk; have := h.ls; have := h.bs_; omega)
 ls := h.ls
 lb := h.lb
 lp := h.lp
 bs_ := h.bs_
 bb := h.bb
 bp := h.bp
 nbs := h.nbs
 nps := h.nps
 nbp := h.nbp
 sz := Nat.le_trans h.sz hg.size
 box := h.box.grown hg (fun k hk => by have := hr k hk; have := h.bs_; omega)
 buf := h.buf.grown hg (fun k hk => by have := hr k hk; have := h.bb; omega)
 pl := h.pl.grown hg (fun k hk => by have := hr k hk; have := h.bp; omega)
theorem PBx.setPl {w0 w : World} {gs gb gp base : Nat} {s : ByteArray} {B : Value} {p : Nat} (h : PBx w0 w gs gb gp base s B p) (q : Nat) : PBx w0 (w.setCell ⟨gp, 0, none⟩ (.int .i64 (q : Int))) gs gb gp base s B q where
 ext := h.ext.setCell h.lp _
 ls := h.ls
 lb := h.lb
 lp := h.lp
 bs_ := h.bs_
 bb := h.bb
 bp := h.bp
 nbs := h.nbs
 nps := h.nps
 nbp := h.nbp
 sz := by rw [World.size_setCell]; exact h.sz
 box := h.box.far (fun e => h.nps e.symm) _
 buf := h.buf.far (fun e => h.nbp e) _
 pl := h.pl.set 0 _
theorem PBx.setBuf {w0 w : World} {gs gb gp base : Nat} {s : ByteArray} {B : Value} {p : Nat} (h : PBx w0 w gs gb gp base s B p) (B' : Value) : PBx w0 (w.setCell ⟨gb, 0, none⟩ B') gs gb gp base s B' p where
 ext := h.ext.setCell h.lb _
 ls := h.ls
 lb := h.lb
 lp := h.lp
 bs_ := h.bs_
 bb := h.bb
 bp := h.bp
 nbs := h.nbs
 nps := h.nps
 nbp := h.nbp
 sz := by rw [World.size_setCell]; exact h.sz
 box := h.box.far (fun e => h.nbs e.symm) _
 buf := h.buf.set 0 _
 pl := h.pl.far (fun e => h.nbp e.symm) _
def cells (o : List UInt8) : List Value := o.map fun b => Value.int .u8 (b.toNat : Int)
theorem cells_append (a b : List UInt8) : cells (a ++ b) = cells a ++ cells b := by unfold cells; exact List.map_append
theorem strCells_eq (s : ByteArray) : Lib.strCells s = cells (lst s) := rfl
section
variable {P : Program}
theorem wp_append_str {o : Oper} {a : Act} {w : World} {K : Act → World → Prop} {Q : Exit → Act → World → Prop} (sl x : Operand) (t u : TypeId)
  (ho : o.op = .call { callee := .builtin .append, args := #[sl, x], argTypes := #[t, u] })
  (base : Nat) (e : TypeId) (i : TypeInfo) (ht : P.underlying t = some (.slice e)) (hu : P.underlying u = some .string) (hi : P.info? e = some i) (hz : i.zero = some (.int .u8 0))
  (hsize : i.size = 1) (hby : i.bytes = 1)
  (v : Value) (n : Nat) (xs : List Value) (hs : a.eval sl = v) (hown : w.ownsRow base e 1 v n xs) (s : ByteArray) (hx : a.eval x = .string s)
  (h63 : n + s.size ≤ maxLen) (hbytes : n + s.size ≤ 140737488355328) (hbase : base ≤ w.heap.size)
  (h : ∀ v' w', w'.ownsRow base e 1 v' (n + s.size) (xs ++ cells (lst s)) → w.grownBy w' v.ownBlock → K (a.put o.dst v') w') : o.wp P a w K Q := by
 obtain ⟨v', w', hr, h2, h3, h4⟩ := Lib.run_append_own_string (P := P) w base t u o.type e i ht hu hi hz hsize hby v n xs hown s h63 hbytes hbase
 unfold Oper.wp execOp
 simp only [ho, resolve, invoke, builtin, Sem.run_bind, Sem.run_pure, Result.andThen_ok, List.map_toArray, List.map_cons, List.map_nil, hs, hx, hr]
 exact h v' w' h2 h3
end
theorem plain_cons (s : ByteArray) (a b n : Nat) (hab : a < b) (hb : b ≤ s.size) (hn : n = min (b - a) 128) : plainF (sub_ s a b) = [byte ((n : Int) - 1)] ++ lst (s.extract a (a + n)) ++ plainF (sub_ s (a + n) b) := by
 have hl : (sub_ s a b).length = b - a := length_sub_ s a b hb
 have hne : sub_ s a b ≠ [] := by intro h; rw [h] at hl; simp at hl; omega
 rw [plainF.eq_def (sub_ s a b), dif_neg hne, hl, ← hn]
 have hb' : byte ((n : Int) - 1) = UInt8.ofNat (n - 1) := by
  unfold byte; congr 1; show ((n : Int) - 1).toNat = n - 1; omega
 have ht : (sub_ s a b).take 128 = lst (s.extract a (a + n)) := by
  rw [lst_ext]
  unfold sub_
  rw [List.take_drop, List.take_take]
  by_cases h : b - a ≤ 128
  ·rw [show min (a + 128) b = b by omega, show a + n = b by omega]
  ·rw [show min (a + 128) b = a + 128 by omega, show n = 128 by omega]
 have hd : (sub_ s a b).drop 128 = sub_ s (a + n) b := by
  unfold sub_
  rw [List.drop_drop]
  by_cases h : b - a ≤ 128
  ·rw [List.drop_of_length_le (by rw [List.length_take, length_lst]; omega), List.drop_of_length_le (by rw [List.length_take, length_lst]; omega)]
  ·rw [show n = 128 by omega]
 rw [hb', ht, hd]
 simp
theorem plain_none (s : ByteArray) (a b : Nat) (h : b ≤ a) : plainF (sub_ s a b) = [] := by
 have : sub_ s a b = [] := by unfold sub_; exact List.drop_of_length_le (by rw [List.length_take]; omega)
 rw [this, plain_nil]
theorem flush_any (w0 w : World) (gs gb gp base : Nat) (s : ByteArray) (B : Value) (o : List UInt8) (p i : Nat) (h : PBx w0 w gs gb gp base s B p) (ho : w.ownsRow base 5 1 B o.length (cells o)) (hp : p ≤ i) (hi : i ≤ s.size) (hs : s.size ≤ 600) (hol : o.length ≤ 2000) :
  Calls Tryz.prog 42 #[.int .i64 i, .pointer (some ⟨gp, 0, none⟩), .pointer (some ⟨gb, 0, none⟩), .pointer (some ⟨gs, 0, none⟩)] w fun e w' => e = .returned (.tuple #[]) ∧ ∃ B', PBx w0 w' gs gb gp base s B' 0 ∧ w'.ownsRow base 5 1 B' (o ++ plainF (sub_ s (i - p) i)).length (cells (o ++ plainF (sub_ s (i - p) i))) := by
 obtain ⟨i0, hi0, hz0, hz1, hz2⟩ := info_parts info_byte
 have HI := Lib.hid (And.intro hi0 (And.intro hz0 (And.intro hz1 hz2)))
 clear hi0 hz0 hz1 hz2
 have hi6 : (i : Int) ≤ 600 := by omega
 obtain ⟨T, hT⟩ : ∃ T, T = o ++ plainF (sub_ s (i - p) i) := ⟨_, rfl⟩
 rw [← hT]
 have HT := Lib.hid hT.symm
 have HH := Lib.hid (And.intro h ho)
 have hsI : (i : Int) ≤ (s.size : Int) := by omega
 have HPI := Lib.hid (And.intro hp hol)
 have HTL := Lib.hid (show T.length ≤ 4000 by
  have h1 := plain_len2 (sub_ s (i - p) i)
  rw [length_sub_ s _ _ hi] at h1
  rw [hT, List.length_append]; omega)
 clear hT h ho hp hol
 go_enter Tryz.func42, Tryz.ntmps42
 go_wp2_with fail
 go_loopw [5] (fun _ wr => ∃ (B' : Value) (o' : List UInt8) (q : Nat), PBx w0 wr gs gb gp base s B' q ∧ wr.ownsRow base 5 1 B' o'.length (cells o') ∧ q ≤ i ∧ o' ++ plainF (sub_ s (i - q) i) = T) (fun _ wr => (intOf ((wr.cell? ⟨gp, 0, none⟩).getD undef)).toNat)
 case atStart => exact ⟨B, o, p, HH.out.1, HH.out.2, HPI.out.1, HT.out⟩
 case round =>
  clear HH HPI HT
  obtain ⟨B', o', q, hb, ho, hq, heq⟩ := hrel
  have HB := Lib.hid hb
  have HO := Lib.hid ho
  have HEQ := Lib.hid heq
  have q0 := hb.pl.cell 0
  simp at q0
  have q1 := hb.buf.cell 0
  simp at q1
  have q2 := hb.box.cell 0
  simp at q2
  have hqI : (q : Int) ≤ (i : Int) := by omega
  by_cases h0 : q = 0
  ·subst h0
   have HR := Lib.hid (show o' = T by rw [← heq, plain_none s _ _ (by omega), List.append_nil])
   have q0' : wr.cell? ⟨gp, 0, none⟩ = some (.int .i64 0) := q0
   clear hb ho heq q0
   go_wp2_with fail
   go_end0
   refine ⟨rfl, B', HB.out, ?_⟩
   rw [← HR.out]; exact HO.out
  ·have t1 : decide ((0 : Int) < (q : Int)) = true := by simp; omega
   have h0' : 0 < q := by omega
   obtain ⟨n, hn⟩ : ∃ n, n = min q 128 := ⟨_, rfl⟩
   have hmin1 : (if (128 : Int) < (q : Int) then (128 : Int) else (q : Int)) = (n : Int) := by split <;> omega
   have hmin2 : (if 128 < q then (128 : Int) else (q : Int)) = (n : Int) := by split <;> omega
   have hmin3 : min (q : Int) 128 = (n : Int) := by omega
   have hmin4 : min (128 : Int) (q : Int) = (n : Int) := by omega
   have HN := Lib.hid hn
   have hn1 : (1 : Int) ≤ (n : Int) := by omega
   have hn2 : (n : Int) ≤ 128 := by omega
   have hnq : (n : Int) ≤ (q : Int) := by omega
   have hpl := HEQ.out
   rw [plain_cons s (i - q) i n (by omega) hi (by omega)] at hpl
   have HPL := Lib.hid hpl
   have hz0 := hb.pl.frozen 0
   have hz1 := hb.buf.frozen 0
   have hxx1 : IntKind.i64.wrap ((n : Int) - 1) = (n : Int) - 1 := by rw [IntKind.wrap_i64]; omega
   have hxx2 : IntKind.u8.wrap ((n : Int) - 1) = (n : Int) - 1 := by rw [IntKind.wrap_u8]; omega
   have hxx3 : IntKind.i64.wrap ((i : Int) - (q : Int)) = (i : Int) - (q : Int) := by rw [IntKind.wrap_i64]; omega
   have hxx4 : IntKind.i64.wrap ((i : Int) - (q : Int) + (n : Int)) = (i : Int) - (q : Int) + (n : Int) := by rw [IntKind.wrap_i64]; omega
   have hxx5 : IntKind.i64.wrap ((q : Int) - (n : Int)) = (q : Int) - (n : Int) := by rw [IntKind.wrap_i64]; omega
   have hsl0 : (0 : Int) ≤ (i : Int) - (q : Int) := by omega
   have hsl1 : (0 : Int) ≤ (i : Int) - (q : Int) + (n : Int) := by omega
   have hsl2 : (i : Int) - (q : Int) ≤ (i : Int) - (q : Int) + (n : Int) := by omega
   have hsl3 : (i : Int) - (q : Int) + (n : Int) ≤ (s.size : Int) := by omega
   have hsl4 : ((i : Int) - (q : Int)).toNat = i - q := by omega
   have hsl5 : ((i : Int) - (q : Int) + (n : Int)).toNat = i - q + n := by omega
   have HLE := Lib.hid (show o'.length + q ≤ 4000 by
    have h1 := congrArg List.length HEQ.out
    have h2 := HTL.out
    rw [List.length_append] at h1
    have h3 : q ≤ (plainF (sub_ s (i - q) i)).length := by rw [plain_len, length_sub_ s _ _ hi]; omega
    omega)
   have HCB := Lib.hid (show cells [byte ((n : Int) - 1)] = [.int .u8 ((n : Int) - 1)] by
    unfold cells; rw [List.map_cons, List.map_nil, byte_nat_ _ (by omega) (by omega)])
   clear hb ho heq h0 hn hpl
   go_wp2_with fail
   refine wp_region_begin (S := fun W' => W'.cell? ⟨gp, 0, none⟩ = some (.int .i64 (q : Int)) ∧ W'.cell? ⟨gb, 0, none⟩ = some B' ∧ W'.cell? ⟨gs, 0, none⟩ = some (.string s)) (n := 17) (by kernel_rfl) rfl (by kernel_rfl) rfl ?_
   have hS0 : (fun W' => W'.cell? ⟨gp, 0, none⟩ = some (.int .i64 (q : Int)) ∧ W'.cell? ⟨gb, 0, none⟩ = some B' ∧ W'.cell? ⟨gs, 0, none⟩ = some (.string s)) wr.drew := ⟨q0, q1, q2⟩
   refine tkL 0 rfl (fun w' hS => by (try dsimp only at hS); go_simp; rfl) hS0 ?_
   refine tkL 1 rfl (fun w' hS => by (try dsimp only at hS); go_simp; rfl) hS0 ?_
   refine tkL 2 rfl (fun w' hS => by (try dsimp only at hS); go_simp; rfl) hS0 ?_
   try simp only [Act.put, List.setIfInBounds_toArray, List.set_cons_zero, List.set_cons_succ]
   refine tkL 3 rfl (fun w' hS => by (try dsimp only at hS); go_simp; rfl) hS0 ?_
   refine tkL 6 rfl (fun w' hS => by (try dsimp only at hS); go_simp; rfl) hS0 ?_
   refine tkL 7 rfl (fun w' hS => by (try dsimp only at hS); go_simp; rfl) hS0 ?_
   try simp only [Act.put, List.setIfInBounds_toArray, List.set_cons_zero, List.set_cons_succ]
   refine tkL 8 rfl (fun w' hS => by (try dsimp only at hS); go_simp; rfl) hS0 ?_
   refine tkL 9 rfl (fun w' hS => by (try dsimp only at hS); go_simp; rfl) hS0 ?_
   refine tkL 10 rfl (fun w' hS => by (try dsimp only at hS); go_simp; rfl) hS0 ?_
   try simp only [Act.put, List.setIfInBounds_toArray, List.set_cons_zero, List.set_cons_succ]
   refine tkL 11 rfl (fun w' hS => by (try dsimp only at hS); go_simp; rfl) hS0 ?_
   refine tkL 12 rfl (fun w' hS => by (try dsimp only at hS); go_simp; rfl) hS0 ?_
   refine tkL 13 rfl (fun w' hS => by (try dsimp only at hS); go_simp; rfl) hS0 ?_
   try simp only [Act.put, List.setIfInBounds_toArray, List.set_cons_zero, List.set_cons_succ]
   refine tkL 14 rfl (fun w' hS => by (try dsimp only at hS); go_simp; rfl) hS0 ?_
   refine tkL 15 rfl (fun w' hS => by (try dsimp only at hS); go_simp; rfl) hS0 ?_
   try simp only [Act.put, List.setIfInBounds_toArray, List.set_cons_zero, List.set_cons_succ]
   refine wpAnyH_oneL (i := 4) rfl (by kernel_rfl) rfl (fun K hK => ?_)
   go_wp2_with fail
   refine hK _ _ ?_ ?_
   ·first | exact ⟨(Ext.refl wr).drew.alloc _ |>.cell q0, (Ext.refl wr).drew.alloc _ |>.cell q1, (Ext.refl wr).drew.alloc _ |>.cell q2⟩ | exact ⟨((Ext.refl wr).alloc _).drew.cell q0, ((Ext.refl wr).alloc _).drew.cell q1, ((Ext.refl wr).alloc _).drew.cell q2⟩
   clear hK K
   try simp only [Act.put, List.setIfInBounds_toArray, List.set_cons_zero, List.set_cons_succ]
   refine anyH_abs (fun W => Ext wr W ∧ Blk_ W wr.heap.size 5 #[.int .u8 ((n : Int) - 1)]) ⟨by first | exact (Ext.refl _).alloc _ | exact (Ext.refl _).drew.alloc _, by first | exact Blk_.new _ _ _ | exact (Blk_.new _ _ _).drew⟩ ?_
   rintro W3 ⟨e3, b3⟩
   refine wpAnyH_oneL (i := 5) rfl (by kernel_rfl) rfl (fun K hK => ?_)
   refine wp_append_at _ (.tmp 10) (.tmp 14) 47 rfl base 5 i0 (.int .u8 0) 1 1 Tryz.underlying47 HI.out.1 HI.out.2.1 HI.out.2.2.1 HI.out.2.2.2 rfl (by decide) _ o'.length _ rfl (own_ext HO.out e3) ⟨wr.heap.size, 0, none⟩ 1 1 [.int .u8 ((n : Int) - 1)] rfl rfl ?_ ?_ ?_ ?_ ?_ ?_
   ·intro j u hu
    rw [Addr.add_lit, Nat.zero_add, b3.cell]
    simpa using hu
   ·intro u hu
    obtain rfl := List.mem_singleton.1 hu
    rfl
   ·have := HLE.out; unfold maxLen; omega
   ·have := HLE.out; omega
   ·have := HB.out.sz; have := e3.size; omega
   intro A4 c4 w4 own4 hg4 hb4
   have hb4' := (HB.out.grown (e3.by_ none) (fun k hk => by cases hk)).grown hg4 (fun k hk => (HO.out.lt k hk).1)
   have own4' : w4.ownsRow base 5 1 (.slice A4 (o'.length + 1) c4) (o' ++ [byte ((n : Int) - 1)]).length (cells (o' ++ [byte ((n : Int) - 1)])) := by
    rw [cells_append, List.length_append, List.length_singleton]
    rw [HCB.out]
    exact own4
   have HB4 := Lib.hid hb4'
   have HO4 := Lib.hid own4'
   refine hK _ _ ⟨by have := hb4'.pl.cell 0; simpa using this, by have := hb4'.buf.cell 0; simpa using this, by have := hb4'.box.cell 0; simpa using this⟩ ?_
   clear hK K own4 hg4 hb4 hb4' own4' e3 b3
   try simp only [Act.put, List.setIfInBounds_toArray, List.set_cons_zero, List.set_cons_succ]
   refine wpAnyH_oneL (i := 16) rfl (by kernel_rfl) rfl (fun K hK => ?_)
   refine wp_append_str (.tmp 15) (.tmp 25) 47 9 rfl base 5 i0 Tryz.underlying47 Tryz.underlying9 HI.out.1 HI.out.2.1 HI.out.2.2.1 HI.out.2.2.2 _ _ _ rfl HO4.out (s.extract (i - q) (i - q + n)) rfl ?_ ?_ ?_ ?_
   ·have := HLE.out; have := HN.out; rw [ByteArray.size_extract, List.length_append, List.length_singleton]; unfold maxLen; omega
   ·have := HLE.out; have := HN.out; rw [ByteArray.size_extract, List.length_append, List.length_singleton]; omega
   ·exact HB4.out.sz
   intro B5 w5 own5 hg5
   obtain ⟨A5, c5, rfl⟩ := own_slice own5
   have hb5 := HB4.out.grown hg5 (fun k hk => (HO4.out.lt k hk).1)
   have HO5 := Lib.hid (show w5.ownsRow base 5 1 _ (o' ++ [byte ((n : Int) - 1)] ++ lst (s.extract (i - q) (i - q + n))).length (cells (o' ++ [byte ((n : Int) - 1)] ++ lst (s.extract (i - q) (i - q + n)))) by
    rw [show (o' ++ [byte ((n : Int) - 1)] ++ lst (s.extract (i - q) (i - q + n))).length = (o' ++ [byte ((n : Int) - 1)]).length + (s.extract (i - q) (i - q + n)).size by rw [List.length_append, length_lst], cells_append (o' ++ _)]; exact own5)
   have HB5 := Lib.hid hb5
   clear own5 hg5
   generalize (o' ++ [byte ((n : Int) - 1)]).length + (s.extract (i - q) (i - q + n)).size = m5 at *
   have p0 := hb5.pl.cell 0
   simp at p0
   have p1 := hb5.buf.cell 0
   simp at p1
   have p2 := hb5.box.cell 0
   simp at p2
   refine hK _ _ ⟨p0, p1, p2⟩ ?_
   clear hK K
   try simp only [Act.put, List.setIfInBounds_toArray, List.set_cons_zero, List.set_cons_succ]
   refine wpAnyH_endL (by kernel_rfl) (fun K hK => ?_)
   have x0 := hb5.pl.frozen 0
   have x1 := hb5.buf.frozen 0
   have ne1 : ¬ (gb = gp) := hb5.nbp
   have ne2 : ¬ (gp = gb) := fun e => hb5.nbp e.symm
   clear hb5
   go_wp2_with fail
   go_roundw
   case rel =>
    have hqn : (q : Int) - (n : Int) = ((q - n : Nat) : Int) := by have := HN.out; omega
    rw [hqn]
    refine ⟨_, o' ++ [byte ((n : Int) - 1)] ++ lst (s.extract (i - q) (i - q + n)), q - n, (HB5.out.setBuf _).setPl (q - n), ?_, by omega, ?_⟩
    ·refine ownsRow_setCell_other (ownsRow_setCell_other HO5.out ?_ _) ?_ _
     ·intro e; have h1 : base ≤ gb := (HO5.out.lt _ e).1; have := HB5.out.bb; omega
     ·intro e; have h1 : base ≤ gp := (HO5.out.lt _ e).1; have := HB5.out.bp; omega
    ·rw [show i - (q - n) = i - q + n by have := HN.out; omega]
     have := HPL.out
     simpa [List.append_assoc] using this
   case measure =>
    have y0 := ((HB5.out.setBuf (.slice A5 m5 c5)).pl.set 0 (.int .i64 ((q : Int) - (n : Int)))).cell 0
    simp at y0
    rw [y0, q0]
    simp [intOf]; omega
end Go.Proofs.YtjadmfdlggnlgaaGreatDoor
