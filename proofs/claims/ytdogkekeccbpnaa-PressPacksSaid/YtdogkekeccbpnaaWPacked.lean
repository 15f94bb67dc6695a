/-
  The document's plainly and PackedOf: bytes as they are, and packed. Conditions: the text is short.
-/
import Derived.Test.YtdogkekeccbpnaaWPack
import Derived.Test.YtdogkekeccbpnaaR3
namespace Go.Proofs.Ytdogkekeccbpnaa
set_option linter.unusedSimpArgs false
set_option linter.unusedVariables false
open Go.RowKit

theorem lst_ext0 (s : ByteArray) (n : Nat) : lst (s.extract 0 n) = (lst s).take n := by
  unfold lst; rw [ByteArray.data_extract, Array.toList_extract]; simp [List.extract]
theorem lst_ext (s : ByteArray) (a b : Nat) : lst (s.extract a b) = sub_ s a b := by
  unfold lst sub_
  rw [ByteArray.data_extract, Array.toList_extract]
  simp [List.extract, List.drop_take, lst]
theorem plain_join (s : ByteArray) (n : Nat) (hn : n = min s.size 128) (h0 : 0 < s.size) : bs [byte ((n : Int) - 1)] ++ s.extract 0 n ++ bs (plainF (lst (s.extract n s.size))) = bs (plainF (lst s)) := by
  apply lst_inj
  rw [lst_append, lst_append, lst_bs, lst_bs, lst_bs, lst_ext0, lst_ext]
  have hne : lst s ≠ [] := by intro h; have := length_lst s; rw [h] at this; simp at this; omega
  have hn1 : 1 ≤ n := by omega
  rw [plainF.eq_def (lst s), dif_neg hne, length_lst, ← hn]
  have hb : byte ((n : Int) - 1) = UInt8.ofNat (n - 1) := by
    unfold byte; congr 1; show ((n : Int) - 1).toNat = n - 1; omega
  have ht : (lst s).take n = (lst s).take 128 := by
    by_cases h : s.size ≤ 128
    · rw [List.take_of_length_le (by rw [length_lst]; omega), List.take_of_length_le (by rw [length_lst]; omega)]
    · rw [show n = 128 by omega]
  have hd : sub_ s n s.size = (lst s).drop 128 := by
    unfold sub_
    rw [List.take_of_length_le (by rw [length_lst]; omega)]
    by_cases h : s.size ≤ 128
    · rw [List.drop_of_length_le (by rw [length_lst]; omega), List.drop_of_length_le (by rw [length_lst]; omega)]
    · rw [show n = 128 by omega]
  rw [hb, ht, hd]
  simp
theorem plain_size (l : List UInt8) : (bs (plainF l)).size = l.length + (l.length + 127) / 128 := by rw [size_bs, plain_len]
set_option maxRecDepth 100000 in
set_option maxHeartbeats 8000000 in
theorem plainly_any : ∀ (m : Nat) (s : ByteArray) (w : World), s.size = m → s.size ≤ 600 →
    Calls Try.prog 119 #[.string s] w fun e w' => e = .returned (.string (bs (plainF (lst s)))) ∧ Ext w w' := by
  intro m
  induction m using Nat.strongRecOn with
  | ind m ih =>
    intro s w hm hs
    by_cases h0 : s.size = 0
    · have hf : bs (plainF (lst s)) = .empty := by
        have : lst s = [] := List.eq_nil_of_length_eq_zero (by rw [length_lst]; exact h0)
        rw [this, plain_nil]; rfl
      rw [hf]
      have t1 : ((s.size : Int) == 0) = true := by rw [h0]; rfl
      clear hf h0 ih hm
      go_enter Try.func119, Try.ntmps119
      go_wp2_with fail
      go_ret
      exact ⟨rfl, Ext.refl _⟩
    · have t1 : ((s.size : Int) == 0) = false := beq_false_of_ne (by omega)
      have HIH := Lib.hid ih
      have HM := Lib.hid hm
      clear ih hm
      by_cases h128 : 128 < s.size
      · have t2 : decide ((128 : Int) < (s.size : Int)) = true := by simp; omega
        have hb1 : (128 : Int) ≤ (s.size : Int) := by omega
        obtain ⟨r, hr⟩ : ∃ r, r = s.extract 128 s.size := ⟨_, rfl⟩
        obtain ⟨q, hq⟩ : ∃ q, q = s.extract 0 128 := ⟨_, rfl⟩
        have HQS := Lib.hid (show q.size ≤ 600 by rw [hq, ByteArray.size_extract]; omega)
        have HRS := Lib.hid (show r.size = s.size - 128 by rw [hr, ByteArray.size_extract]; omega)
        have HJ := Lib.hid (show bs [byte 127] ++ q ++ bs (plainF (lst r)) = bs (plainF (lst s)) by rw [hr, hq]; exact plain_join s 128 (by omega) (by omega))
        have HR := Lib.hid hr
        have HQ := Lib.hid hq
        clear hr hq
        have HPL := Lib.hid (show (bs (plainF (lst r))).size ≤ 1200 by
          have := plain_size (lst r)
          rw [length_lst, HRS.out] at this
          omega)
        go_enter Try.func119, Try.ntmps119
        go_wp2_with fail
        refine wp_region_vals (F := ?_) ?_ [(fun (v : Value) (_ : World) => v = .int .i64 (128 : Int)), (fun (v : Value) (_ : World) => v = .int .i64 127), (fun (v : Value) (_ : World) => v = .int .u8 127), (fun v w => ∃ g, v = .slice (some ⟨g, 0, none⟩) 1 1 ∧ Blk_ w g 5 #[.int .u8 127]), (fun (v : Value) (_ : World) => v = .string (bs [byte 127])), (fun (v : Value) (_ : World) => v = .string s), (fun (v : Value) (_ : World) => v = .int .i64 (128 : Int)), (fun (v : Value) (_ : World) => v = .string (q)), (fun (v : Value) (_ : World) => v = .string (bs [byte 127] ++ q)), (fun (v : Value) (_ : World) => v = .string s), (fun (v : Value) (_ : World) => v = .int .i64 (128 : Int)), (fun (v : Value) (_ : World) => v = .string r), (fun (v : Value) (_ : World) => v = .string (bs (plainF (lst r)))), (fun (v : Value) (_ : World) => v = .string (bs [byte 127] ++ q ++ bs (plainF (lst r)))), (fun (v : Value) (_ : World) => v = .string (bs [byte 127] ++ q ++ bs (plainF (lst r))))] (by kernel_rfl) (by kernel_rfl) ?_ ?_ ?_
        rotate_left
        · intro vals
          simp only [putAll, Act.put, List.setIfInBounds_toArray, List.set_cons_zero, List.set_cons_succ, Nat.zero_add, Nat.reduceAdd]
          rfl
        · simp only [List.forall_mem_cons]
          exact ⟨fun _ _ _ h _ => h, fun _ _ _ h _ => h, fun _ _ _ h _ => h, fun _ _ _ h e => (by obtain ⟨g, hg, hb⟩ := h; exact ⟨g, hg, hb.ext e⟩), fun _ _ _ h _ => h, fun _ _ _ h _ => h, fun _ _ _ h _ => h, fun _ _ _ h _ => h, fun _ _ _ h _ => h, fun _ _ _ h _ => h, fun _ _ _ h _ => h, fun _ _ _ h _ => h, fun _ _ _ h _ => h, fun _ _ _ h _ => h, fun _ _ _ h _ => h, fun _ h => (by cases h)⟩
        · refine ⟨?_, ?_, ?_, ?_, ?_, ?_, ?_, ?_, ?_, ?_, ?_, ?_, ?_, ?_, ?_, trivial⟩
          · intro vals W e hd ho K hK
            refine st_quiet (v := ?_) ?_ ?_
            rotate_left
            · go_simp
              rfl
            exact hK _ _ _ rfl (by first | exact rfl | exact congrArg (Value.int _) (by first | (rw [IntKind.wrap_i64]; omega) | (rw [IntKind.wrap_u8]; omega) | omega)) (Ext.refl _)
          · intro vals W e hd ho K hK
            have h0 : vals 0 = .int .i64 (128 : Int) := hd 0 (by kernel_rfl)
            refine st_quiet (v := ?_) ?_ ?_
            rotate_left
            · go_simp
              rfl
            exact hK _ _ _ rfl (by first | exact rfl | exact congrArg (Value.int _) (by first | (rw [IntKind.wrap_i64]; omega) | (rw [IntKind.wrap_u8]; omega) | omega)) (Ext.refl _)
          · intro vals W e hd ho K hK
            have h1 : vals 1 = .int .i64 127 := hd 1 (by kernel_rfl)
            refine st_quiet (v := ?_) ?_ ?_
            rotate_left
            · go_simp
              rfl
            exact hK _ _ _ rfl (by first | exact rfl | exact congrArg (Value.int _) (by first | (rw [IntKind.wrap_i64]; omega) | (rw [IntKind.wrap_u8]; omega) | omega)) (Ext.refl _)
          · intro vals W e hd ho K hK
            have h2 : vals 2 = .int .u8 127 := hd 2 (by kernel_rfl)
            go_wp2_with fail
            exact hK _ _ _ (by first | rfl | (simp only [h2]; rfl)) ⟨W.heap.size, rfl, Blk_.new _ _ _⟩ ((Ext.refl W).alloc _)
          · intro vals W e hd ho K hK
            obtain ⟨g3, h3, b3⟩ := hd 3 (by kernel_rfl)
            refine wp_conv1 (.tmp 14) 102 9 5 rfl Try.underlying102 Try.underlying5 Try.underlying9 g3 _ (by go_simp; try rfl) b3 ?_
            exact hK _ _ _ rfl rfl (Ext.refl _)
          · intro vals W e hd ho K hK
            refine st_quiet (v := ?_) ?_ ?_
            rotate_left
            · go_simp
              rfl
            exact hK _ _ _ rfl (by first | exact rfl | exact congrArg (Value.int _) (by first | (rw [IntKind.wrap_i64]; omega) | (rw [IntKind.wrap_u8]; omega) | omega)) (Ext.refl _)
          · intro vals W e hd ho K hK
            refine st_quiet (v := ?_) ?_ ?_
            rotate_left
            · go_simp
              rfl
            exact hK _ _ _ rfl (by first | exact rfl | exact congrArg (Value.int _) (by first | (rw [IntKind.wrap_i64]; omega) | (rw [IntKind.wrap_u8]; omega) | omega)) (Ext.refl _)
          · intro vals W e hd ho K hK
            have h5 : vals 5 = .string s := hd 5 (by kernel_rfl)
            have h6 : vals 6 = .int .i64 (128 : Int) := hd 6 (by kernel_rfl)
            refine st_slice _ (.tmp 16) none (some (.tmp 17)) s 0 128 rfl Try.underlying9 h5 rfl h6 (by omega) (by omega) ?_
            exact hK _ _ _ rfl (congrArg Value.string HQ.out.symm) (Ext.refl _)
          · intro vals W e hd ho K hK
            have h4 : vals 4 = .string (bs [byte 127]) := hd 4 (by kernel_rfl)
            have h7 : vals 7 = .string (q) := hd 7 (by kernel_rfl)
            refine st_concat (.tmp 15) (.tmp 18) _ _ _ _ rfl h4 h7 (by have := HQS.out; rw [size_bs]; simp only [List.length_cons, List.length_nil]; omega) ?_
            exact hK _ _ _ rfl rfl (Ext.refl _)
          · intro vals W e hd ho K hK
            refine st_quiet (v := ?_) ?_ ?_
            rotate_left
            · go_simp
              rfl
            exact hK _ _ _ rfl (by first | exact rfl | exact congrArg (Value.int _) (by first | (rw [IntKind.wrap_i64]; omega) | (rw [IntKind.wrap_u8]; omega) | omega)) (Ext.refl _)
          · intro vals W e hd ho K hK
            refine st_quiet (v := ?_) ?_ ?_
            rotate_left
            · go_simp
              rfl
            exact hK _ _ _ rfl (by first | exact rfl | exact congrArg (Value.int _) (by first | (rw [IntKind.wrap_i64]; omega) | (rw [IntKind.wrap_u8]; omega) | omega)) (Ext.refl _)
          · intro vals W e hd ho K hK
            have h9 : vals 9 = .string s := hd 9 (by kernel_rfl)
            have h10 : vals 10 = .int .i64 (128 : Int) := hd 10 (by kernel_rfl)
            refine st_slice _ (.tmp 20) (some (.tmp 21)) none s 128 s.size rfl Try.underlying9 h9 h10 rfl (by omega) (by omega) ?_
            exact hK _ _ _ rfl (congrArg Value.string HR.out.symm) (Ext.refl _)
          · intro vals W e hd ho K hK
            have h11 : vals 11 = .string r := hd 11 (by kernel_rfl)
            go_wp2_with fail
            refine (HIH.out r.size (by have := HM.out; have := HRS.out; omega) r _ rfl (by have := HRS.out; omega)).mono ?_
            rintro e' W' ⟨rfl, h'⟩
            exact hK _ _ _ (by first | rfl | (simp only [h11]; rfl)) rfl h'
          · intro vals W e hd ho K hK
            have h8 : vals 8 = .string (bs [byte 127] ++ q) := hd 8 (by kernel_rfl)
            have h12 : vals 12 = .string (bs (plainF (lst r))) := hd 12 (by kernel_rfl)
            refine st_concat (.tmp 19) (.tmp 23) _ _ _ _ rfl h8 h12 (by have := HPL.out; have := HQS.out; rw [ByteArray.size_append, size_bs]; simp only [List.length_cons, List.length_nil]; omega) ?_
            exact hK _ _ _ rfl rfl (Ext.refl _)
          · intro vals W e hd ho K hK
            have h13 : vals 13 = .string (bs [byte 127] ++ q ++ bs (plainF (lst r))) := hd 13 (by kernel_rfl)
            refine st_quiet (v := ?_) ?_ ?_
            rotate_left
            · go_simp
              rfl
            exact hK _ _ _ rfl (by first | exact rfl | exact congrArg (Value.int _) (by first | (rw [IntKind.wrap_i64]; omega) | (rw [IntKind.wrap_u8]; omega) | omega)) (Ext.refl _)
        intro vals W e hall
        have h14 : vals 14 = .string (bs [byte 127] ++ q ++ bs (plainF (lst r))) := hall 14 (by decide)
        go_wp2_with fail
        go_ret
        rw [HJ.out]
        exact ⟨rfl, (Ext.refl w).drew.trans e⟩
      · have t2 : decide ((128 : Int) < (s.size : Int)) = false := by simp; omega
        have hb1 : (s.size : Int) ≤ 128 := by omega
        have hb2 : (1 : Int) ≤ (s.size : Int) := by omega
        obtain ⟨r, hr⟩ : ∃ r, r = s.extract s.size s.size := ⟨_, rfl⟩
        obtain ⟨q, hq⟩ : ∃ q, q = s.extract 0 s.size := ⟨_, rfl⟩
        have HQS := Lib.hid (show q.size ≤ 600 by rw [hq, ByteArray.size_extract]; omega)
        have HRS := Lib.hid (show r.size = s.size - s.size by rw [hr, ByteArray.size_extract]; omega)
        have HJ := Lib.hid (show bs [byte ((s.size : Int) - 1)] ++ q ++ bs (plainF (lst r)) = bs (plainF (lst s)) by rw [hr, hq]; exact plain_join s s.size (by omega) (by omega))
        have HR := Lib.hid hr
        have HQ := Lib.hid hq
        clear hr hq
        have HPL := Lib.hid (show (bs (plainF (lst r))).size ≤ 1200 by
          have := plain_size (lst r)
          rw [length_lst, HRS.out] at this
          omega)
        go_enter Try.func119, Try.ntmps119
        go_wp2_with fail
        refine wp_region_vals (F := ?_) ?_ [(fun (v : Value) (_ : World) => v = .int .i64 (s.size : Int)), (fun (v : Value) (_ : World) => v = .int .i64 ((s.size : Int) - 1)), (fun (v : Value) (_ : World) => v = .int .u8 ((s.size : Int) - 1)), (fun v w => ∃ g, v = .slice (some ⟨g, 0, none⟩) 1 1 ∧ Blk_ w g 5 #[.int .u8 ((s.size : Int) - 1)]), (fun (v : Value) (_ : World) => v = .string (bs [byte ((s.size : Int) - 1)])), (fun (v : Value) (_ : World) => v = .string s), (fun (v : Value) (_ : World) => v = .int .i64 (s.size : Int)), (fun (v : Value) (_ : World) => v = .string (q)), (fun (v : Value) (_ : World) => v = .string (bs [byte ((s.size : Int) - 1)] ++ q)), (fun (v : Value) (_ : World) => v = .string s), (fun (v : Value) (_ : World) => v = .int .i64 (s.size : Int)), (fun (v : Value) (_ : World) => v = .string r), (fun (v : Value) (_ : World) => v = .string (bs (plainF (lst r)))), (fun (v : Value) (_ : World) => v = .string (bs [byte ((s.size : Int) - 1)] ++ q ++ bs (plainF (lst r)))), (fun (v : Value) (_ : World) => v = .string (bs [byte ((s.size : Int) - 1)] ++ q ++ bs (plainF (lst r))))] (by kernel_rfl) (by kernel_rfl) ?_ ?_ ?_
        rotate_left
        · intro vals
          simp only [putAll, Act.put, List.setIfInBounds_toArray, List.set_cons_zero, List.set_cons_succ, Nat.zero_add, Nat.reduceAdd]
          rfl
        · simp only [List.forall_mem_cons]
          exact ⟨fun _ _ _ h _ => h, fun _ _ _ h _ => h, fun _ _ _ h _ => h, fun _ _ _ h e => (by obtain ⟨g, hg, hb⟩ := h; exact ⟨g, hg, hb.ext e⟩), fun _ _ _ h _ => h, fun _ _ _ h _ => h, fun _ _ _ h _ => h, fun _ _ _ h _ => h, fun _ _ _ h _ => h, fun _ _ _ h _ => h, fun _ _ _ h _ => h, fun _ _ _ h _ => h, fun _ _ _ h _ => h, fun _ _ _ h _ => h, fun _ _ _ h _ => h, fun _ h => (by cases h)⟩
        · refine ⟨?_, ?_, ?_, ?_, ?_, ?_, ?_, ?_, ?_, ?_, ?_, ?_, ?_, ?_, ?_, trivial⟩
          · intro vals W e hd ho K hK
            refine st_quiet (v := ?_) ?_ ?_
            rotate_left
            · go_simp
              rfl
            exact hK _ _ _ rfl (by first | exact rfl | exact congrArg (Value.int _) (by first | (rw [IntKind.wrap_i64]; omega) | (rw [IntKind.wrap_u8]; omega) | omega)) (Ext.refl _)
          · intro vals W e hd ho K hK
            have h0 : vals 0 = .int .i64 (s.size : Int) := hd 0 (by kernel_rfl)
            refine st_quiet (v := ?_) ?_ ?_
            rotate_left
            · go_simp
              rfl
            exact hK _ _ _ rfl (by first | exact rfl | exact congrArg (Value.int _) (by first | (rw [IntKind.wrap_i64]; omega) | (rw [IntKind.wrap_u8]; omega) | omega)) (Ext.refl _)
          · intro vals W e hd ho K hK
            have h1 : vals 1 = .int .i64 ((s.size : Int) - 1) := hd 1 (by kernel_rfl)
            refine st_quiet (v := ?_) ?_ ?_
            rotate_left
            · go_simp
              rfl
            exact hK _ _ _ rfl (by first | exact rfl | exact congrArg (Value.int _) (by first | (rw [IntKind.wrap_i64]; omega) | (rw [IntKind.wrap_u8]; omega) | omega)) (Ext.refl _)
          · intro vals W e hd ho K hK
            have h2 : vals 2 = .int .u8 ((s.size : Int) - 1) := hd 2 (by kernel_rfl)
            go_wp2_with fail
            exact hK _ _ _ (by first | rfl | (simp only [h2]; rfl)) ⟨W.heap.size, rfl, Blk_.new _ _ _⟩ ((Ext.refl W).alloc _)
          · intro vals W e hd ho K hK
            obtain ⟨g3, h3, b3⟩ := hd 3 (by kernel_rfl)
            refine wp_conv1 (.tmp 14) 102 9 5 rfl Try.underlying102 Try.underlying5 Try.underlying9 g3 _ (by go_simp; try rfl) b3 ?_
            exact hK _ _ _ rfl rfl (Ext.refl _)
          · intro vals W e hd ho K hK
            refine st_quiet (v := ?_) ?_ ?_
            rotate_left
            · go_simp
              rfl
            exact hK _ _ _ rfl (by first | exact rfl | exact congrArg (Value.int _) (by first | (rw [IntKind.wrap_i64]; omega) | (rw [IntKind.wrap_u8]; omega) | omega)) (Ext.refl _)
          · intro vals W e hd ho K hK
            refine st_quiet (v := ?_) ?_ ?_
            rotate_left
            · go_simp
              rfl
            exact hK _ _ _ rfl (by first | exact rfl | exact congrArg (Value.int _) (by first | (rw [IntKind.wrap_i64]; omega) | (rw [IntKind.wrap_u8]; omega) | omega)) (Ext.refl _)
          · intro vals W e hd ho K hK
            have h5 : vals 5 = .string s := hd 5 (by kernel_rfl)
            have h6 : vals 6 = .int .i64 (s.size : Int) := hd 6 (by kernel_rfl)
            refine st_slice _ (.tmp 16) none (some (.tmp 17)) s 0 s.size rfl Try.underlying9 h5 rfl h6 (by omega) (by omega) ?_
            exact hK _ _ _ rfl (congrArg Value.string HQ.out.symm) (Ext.refl _)
          · intro vals W e hd ho K hK
            have h4 : vals 4 = .string (bs [byte ((s.size : Int) - 1)]) := hd 4 (by kernel_rfl)
            have h7 : vals 7 = .string (q) := hd 7 (by kernel_rfl)
            refine st_concat (.tmp 15) (.tmp 18) _ _ _ _ rfl h4 h7 (by have := HQS.out; rw [size_bs]; simp only [List.length_cons, List.length_nil]; omega) ?_
            exact hK _ _ _ rfl rfl (Ext.refl _)
          · intro vals W e hd ho K hK
            refine st_quiet (v := ?_) ?_ ?_
            rotate_left
            · go_simp
              rfl
            exact hK _ _ _ rfl (by first | exact rfl | exact congrArg (Value.int _) (by first | (rw [IntKind.wrap_i64]; omega) | (rw [IntKind.wrap_u8]; omega) | omega)) (Ext.refl _)
          · intro vals W e hd ho K hK
            refine st_quiet (v := ?_) ?_ ?_
            rotate_left
            · go_simp
              rfl
            exact hK _ _ _ rfl (by first | exact rfl | exact congrArg (Value.int _) (by first | (rw [IntKind.wrap_i64]; omega) | (rw [IntKind.wrap_u8]; omega) | omega)) (Ext.refl _)
          · intro vals W e hd ho K hK
            have h9 : vals 9 = .string s := hd 9 (by kernel_rfl)
            have h10 : vals 10 = .int .i64 (s.size : Int) := hd 10 (by kernel_rfl)
            refine st_slice _ (.tmp 20) (some (.tmp 21)) none s s.size s.size rfl Try.underlying9 h9 h10 rfl (by omega) (by omega) ?_
            exact hK _ _ _ rfl (congrArg Value.string HR.out.symm) (Ext.refl _)
          · intro vals W e hd ho K hK
            have h11 : vals 11 = .string r := hd 11 (by kernel_rfl)
            go_wp2_with fail
            refine (HIH.out r.size (by have := HM.out; have := HRS.out; omega) r _ rfl (by have := HRS.out; omega)).mono ?_
            rintro e' W' ⟨rfl, h'⟩
            exact hK _ _ _ (by first | rfl | (simp only [h11]; rfl)) rfl h'
          · intro vals W e hd ho K hK
            have h8 : vals 8 = .string (bs [byte ((s.size : Int) - 1)] ++ q) := hd 8 (by kernel_rfl)
            have h12 : vals 12 = .string (bs (plainF (lst r))) := hd 12 (by kernel_rfl)
            refine st_concat (.tmp 19) (.tmp 23) _ _ _ _ rfl h8 h12 (by have := HPL.out; have := HQS.out; rw [ByteArray.size_append, size_bs]; simp only [List.length_cons, List.length_nil]; omega) ?_
            exact hK _ _ _ rfl rfl (Ext.refl _)
          · intro vals W e hd ho K hK
            have h13 : vals 13 = .string (bs [byte ((s.size : Int) - 1)] ++ q ++ bs (plainF (lst r))) := hd 13 (by kernel_rfl)
            refine st_quiet (v := ?_) ?_ ?_
            rotate_left
            · go_simp
              rfl
            exact hK _ _ _ rfl (by first | exact rfl | exact congrArg (Value.int _) (by first | (rw [IntKind.wrap_i64]; omega) | (rw [IntKind.wrap_u8]; omega) | omega)) (Ext.refl _)
        intro vals W e hall
        have h14 : vals 14 = .string (bs [byte ((s.size : Int) - 1)] ++ q ++ bs (plainF (lst r))) := hall 14 (by decide)
        go_wp2_with fail
        go_ret
        rw [HJ.out]
        exact ⟨rfl, (Ext.refl w).drew.trans e⟩
end Go.Proofs.Ytdogkekeccbpnaa
