/-
  The document's PackedOf: a text, with what stands there already made short. Conditions: none.
-/
import Derived.Test.YtdogkekeccbpnaaWPacked
namespace Go.Proofs.Ytdogkekeccbpnaa
set_option linter.unusedSimpArgs false
set_option linter.unusedVariables false
open Go.RowKit

theorem pack_plain {s : ByteArray} {o : List UInt8} {f i : Nat} (h : i < s.size) (h2 : (pieceF s i 1 0 0).1 < 4) : packF s o f i = packF s o f (i + 1) := by
  rw [packF, dif_pos h, dif_pos h2]
theorem pack_piece {s : ByteArray} {o : List UInt8} {f i n d : Nat} (h : i < s.size) (hp : pieceF s i 1 0 0 = (n, d)) (h2 : ¬ n < 4) : packF s o f i = packF s (o ++ plainF (sub_ s f i) ++ [UInt8.ofNat (124 + n), UInt8.ofNat d]) (i + n) (i + n) := by
  rw [packF, dif_pos h, hp, dif_neg h2]
theorem pack_stop {s : ByteArray} {o : List UInt8} {f i : Nat} (h : ¬ i < s.size) : packF s o f i = o ++ plainF (sub_ s f s.size) := by
  rw [packF, dif_neg h]
theorem bs_app (a b : List UInt8) : bs a ++ bs b = bs (a ++ b) := by apply lst_inj; rw [lst_append, lst_bs, lst_bs, lst_bs]
theorem plain_len2 (l : List UInt8) : (plainF l).length ≤ 2 * l.length := by rw [plain_len]; omega
theorem byte_124 (n : Nat) : byte (124 + (n : Int)) = UInt8.ofNat (124 + n) := by unfold byte; congr 1
theorem byte_cast (n : Nat) : byte (n : Int) = UInt8.ofNat n := by unfold byte; congr 1
set_option maxRecDepth 100000 in
set_option maxHeartbeats 8000000 in
theorem packedOf_any (s : ByteArray) (w : World) :
    Calls Try.prog 61 #[.string s] w fun e w' => e = .returned (.tuple #[.string (packS s).1, .int .i64 (packS s).2]) ∧ Ext w w' := by
  by_cases hs : 600 < s.size
  · have hf : packS s = (.empty, 1) := by unfold packS; rw [if_pos hs]
    rw [hf]
    have t1 : decide ((600 : Int) < (s.size : Int)) = true := by simp; omega
    clear hs hf
    go_enter Try.func61, Try.ntmps61
    go_wp2_with fail
    go_ret2
    exact ⟨rfl, Ext.refl _⟩
  · have hf : packS s = (bs (packF s [] 0 0), 0) := by unfold packS; rw [if_neg hs]
    rw [hf]
    have t1 : decide ((600 : Int) < (s.size : Int)) = false := by simp; omega
    have hs' : s.size ≤ 600 := by omega
    have hsI : (s.size : Int) ≤ 600 := by omega
    clear hs hf
    go_enter Try.func61, Try.ntmps61
    go_wp2_with fail
    go_loopw [4, 5, 6] (fun o f i wr => ∃ (ol : List UInt8) (fn n : Nat), o = .string (bs ol) ∧ f = .int .i64 fn ∧ i = .int .i64 n ∧ fn ≤ n ∧ n ≤ s.size ∧ ol.length ≤ 2 * fn ∧ Ext w wr ∧ packF s ol fn n = packF s [] 0 0) (fun _ _ i _ => s.size - (intOf i).toNat)
    case atStart => exact ⟨[], 0, 0, rfl, rfl, rfl, by omega, by omega, by simp, Ext.refl _, rfl⟩
    case round =>
      obtain ⟨ol, f, i, rfl, rfl, rfl, hfi, his, hol, hx, heq⟩ := hrel
      have HEQ := Lib.hid heq
      have HOL := Lib.hid hol
      have HFI := Lib.hid hfi
      clear heq hol
      by_cases hi : i < s.size
      · have t2 : decide ((i : Int) < (s.size : Int)) = true := by simp; omega
        have hiI : (i : Int) < (s.size : Int) := by omega
        have hi6 : (i : Int) < 600 := by omega
        have HI := Lib.hid hi
        clear hfi
        go_wp2_with fail
        go_loopw [7, 8, 9] (fun b bk dd wq => ∃ (d best back : Nat), dd = .int .i64 d ∧ b = .int .i64 best ∧ bk = .int .i64 back ∧ 1 ≤ d ∧ d ≤ 256 ∧ d ≤ i + 1 ∧ best ≤ 131 ∧ back ≤ 255 ∧ Ext wr wq ∧ pieceF s i d best back = pieceF s i 1 0 0) (fun _ _ dd _ => 256 - (intOf dd).toNat)
        case atStart => exact ⟨1, 0, 0, rfl, rfl, rfl, by omega, by omega, by omega, by omega, by omega, Ext.refl _, rfl⟩
        case round =>
          obtain ⟨d, best, back, rfl, rfl, rfl, hd1, hd2, hd3, hb1, hb2, hxq, heqp⟩ := hrel
          have HEP := Lib.hid heqp
          clear heqp
          by_cases hc1 : d ≤ 255
          · have q1 : decide ((d : Int) ≤ 255) = true := by simp; omega
            by_cases hc2 : d ≤ i
            · have q2 : decide ((d : Int) ≤ (i : Int)) = true := by simp; omega
              obtain ⟨k, hk⟩ : ∃ k : Nat, k = i - d := ⟨_, rfl⟩
              have hsb : IntKind.i64.wrap ((i : Int) - (d : Int)) = (k : Int) := by rw [IntKind.wrap_i64]; omega
              have hsb2 : (i : Int) - (d : Int) = (k : Int) := by omega
              have HK := Lib.hid (And.intro hk (And.intro hc1 hc2))
              have hklt : k < i := by omega
              have hil : i < s.size := hi
              clear hk hc2
              obtain ⟨al, hal⟩ : ∃ al, al = alikeF s k i 0 := ⟨_, rfl⟩
              have hal131 : al ≤ 131 := by rw [hal]; exact (alikeF_le s k i 0 (by omega)).2
              have HAL := Lib.hid hal
              clear hal
              by_cases hbt : best < al
              · have q3 : decide ((best : Int) < (al : Int)) = true := by simp; omega
                have HNX := Lib.hid (show pieceF s i (d + 1) al d = pieceF s i 1 0 0 by rw [← HEP.out, piece_more HK.out.2 (by rw [← HK.out.1, ← HAL.out]; exact hbt), ← HK.out.1, ← HAL.out])
                clear hi q3
                go_wp2_with fail
                refine (alike_any s k i _ hklt hil hs').mono ?_
                rintro e' w1 ⟨rfl, hx1⟩
                rw [← HAL.out]
                go_wp2_with fail
                go_roundw
                case rel => exact ⟨d + 1, al, d, by go_num, rfl, rfl, by omega, by omega, by have := HK.out; omega, by omega, by omega, hxq.trans hx1, HNX.out⟩
                case measure => (simp [intOf]; try omega)
              · have q3 : decide ((best : Int) < (al : Int)) = false := by simp; omega
                have HNX := Lib.hid (show pieceF s i (d + 1) best back = pieceF s i 1 0 0 by rw [← HEP.out, piece_less HK.out.2 (by rw [← HK.out.1, ← HAL.out]; exact hbt)])
                clear hi q3
                go_wp2_with fail
                refine (alike_any s k i _ hklt hil hs').mono ?_
                rintro e' w1 ⟨rfl, hx1⟩
                rw [← HAL.out]
                go_wp2_with fail
                go_roundw
                case rel => exact ⟨d + 1, best, back, by go_num, rfl, rfl, by omega, by omega, by have := HK.out; omega, by omega, by omega, hxq.trans hx1, HNX.out⟩
                case measure => (simp [intOf]; try omega)
            · have q2 : decide ((d : Int) ≤ (i : Int)) = false := by simp; omega
              have HPE0 := Lib.hid (show pieceF s i 1 0 0 = (best, back) by rw [← HEP.out]; exact piece_end (fun h => hc2 h.2))
              obtain ⟨n, hn⟩ : ∃ n, n = best := ⟨_, rfl⟩
              obtain ⟨d', hd'⟩ : ∃ d', d' = back := ⟨_, rfl⟩
              have HPE := HPE0
              rw [← hn, ← hd'] at HPE
              rw [← hn, ← hd']
              have hd255 : (d' : Int) ≤ 255 := by omega
              have hx2 : Ext w wr := hx.trans hxq
              clear q2 hi HEP HPE0 hn hd' hb1 hb2 hd1 hd2 hd3 
              by_cases h4 : n < 4
              · have t3 : decide ((n : Int) < 4) = true := by simp; omega
                have HNX := Lib.hid (show packF s ol f (i + 1) = packF s [] 0 0 by rw [← HEQ.out]; exact (pack_plain HI.out (by rw [HPE.out]; exact h4)).symm)
                clear h4
                go_wp2_with fail
                go_roundw
                case rel => exact ⟨ol, f, i + 1, rfl, rfl, by first | rfl | go_num, by have := HFI.out; omega, by have := HI.out; omega, HOL.out, hx2, HNX.out⟩
                case measure => have := HI.out; (simp [intOf]; try omega)
              · have t3 : decide ((n : Int) < 4) = false := by simp; omega
                obtain ⟨r, hr⟩ : ∃ r, r = s.extract f i := ⟨_, rfl⟩
                have HRS := Lib.hid (show r.size = i - f by rw [hr, ByteArray.size_extract]; have := HI.out; omega)
                have HRL := Lib.hid (show lst r = sub_ s f i by rw [hr]; exact lst_ext s f i)
                have HR := Lib.hid hr
                have HPL := Lib.hid (show (plainF (lst r)).length ≤ 2 * (i - f) by have := plain_len2 (lst r); rw [length_lst, HRS.out] at this; exact this)
                have HB := Lib.hid (piece_le s i (by have := HI.out; omega))
                have HN := Lib.hid (show n ≤ 131 ∧ i + n ≤ s.size by have := HB.out; rw [HPE.out] at this; exact this)
                have HNX := Lib.hid (show packF s (ol ++ plainF (lst r) ++ [UInt8.ofNat (124 + n), UInt8.ofNat d']) (i + n) (i + n) = packF s [] 0 0 by rw [← HEQ.out, HRL.out]; exact (pack_piece HI.out HPE.out h4).symm)
                have HLEN := Lib.hid (show (ol ++ plainF (lst r) ++ [UInt8.ofNat (124 + n), UInt8.ofNat d']).length ≤ 2 * (i + n) by
                  have h1 := HOL.out; have h2 := HPL.out; have h3 := HFI.out
                  rw [List.length_append, List.length_append]; simp only [List.length_cons, List.length_nil]; omega)
                have HJ := Lib.hid (show bs ol ++ bs (plainF (lst r)) ++ bs [byte (124 + (n : Int)), byte (d' : Int)] = bs (ol ++ plainF (lst r) ++ [UInt8.ofNat (124 + n), UInt8.ofNat d']) by rw [bs_app, bs_app, byte_124, byte_cast])
                have hfi := HFI.out
                have hn131 : (n : Int) ≤ 131 := by have := HN.out.1; omega
                have hN4 := Lib.hid h4
                clear hr h4
                go_wp2_with fail
                refine wp_region_vals (F := ?_) ?_ [(fun (v : Value) (_ : World) => v = .string (bs ol)), (fun (v : Value) (_ : World) => v = .string s), (fun (v : Value) (_ : World) => v = .int .i64 (f : Int)), (fun (v : Value) (_ : World) => v = .int .i64 (i : Int)), (fun (v : Value) (_ : World) => v = .string r), (fun (v : Value) (_ : World) => v = .string (bs (plainF (lst r)))), (fun (v : Value) (_ : World) => v = .string (bs ol ++ bs (plainF (lst r)))), (fun (v : Value) (_ : World) => v = .int .i64 (n : Int)), (fun (v : Value) (_ : World) => v = .int .i64 (124 + (n : Int))), (fun (v : Value) (_ : World) => v = .int .u8 (124 + (n : Int))), (fun (v : Value) (_ : World) => v = .int .i64 (d' : Int)), (fun (v : Value) (_ : World) => v = .int .u8 (d' : Int)), (fun v w => ∃ g, v = .slice (some ⟨g, 0, none⟩) 2 2 ∧ Blk_ w g 5 #[.int .u8 (124 + (n : Int)), .int .u8 (d' : Int)]), (fun (v : Value) (_ : World) => v = .string (bs [byte (124 + (n : Int)), byte (d' : Int)])), (fun (v : Value) (_ : World) => v = .string (bs ol ++ bs (plainF (lst r)) ++ bs [byte (124 + (n : Int)), byte (d' : Int)])), (fun (v : Value) (_ : World) => v = .string (bs ol ++ bs (plainF (lst r)) ++ bs [byte (124 + (n : Int)), byte (d' : Int)]))] (by kernel_rfl) (by kernel_rfl) ?_ ?_ ?_
                rotate_left
                · intro vals
                  simp only [putAll, Act.put, List.setIfInBounds_toArray, List.set_cons_zero, List.set_cons_succ, Nat.zero_add, Nat.reduceAdd]
                  rfl
                · simp only [List.forall_mem_cons]
                  exact ⟨fun _ _ _ h _ => h, fun _ _ _ h _ => h, fun _ _ _ h _ => h, fun _ _ _ h _ => h, fun _ _ _ h _ => h, fun _ _ _ h _ => h, fun _ _ _ h _ => h, fun _ _ _ h _ => h, fun _ _ _ h _ => h, fun _ _ _ h _ => h, fun _ _ _ h _ => h, fun _ _ _ h _ => h, fun _ _ _ h e => (by obtain ⟨g, hg, hb⟩ := h; exact ⟨g, hg, hb.ext e⟩), fun _ _ _ h _ => h, fun _ _ _ h _ => h, fun _ _ _ h _ => h, fun _ h => (by cases h)⟩
                · refine ⟨?_, ?_, ?_, ?_, ?_, ?_, ?_, ?_, ?_, ?_, ?_, ?_, ?_, ?_, ?_, ?_, trivial⟩
                  · intro vals W e HD ho K hK
                    have o15 : vals 15 = .string (bs ol) := ho 15 (by kernel_rfl)
                    refine st_quiet (v := ?_) ?_ ?_
                    rotate_left
                    · go_simp
                      rfl
                    exact hK _ _ _ rfl (by first | exact rfl | exact congrArg (Value.int _) (by first | (rw [IntKind.wrap_i64]; omega) | (rw [IntKind.wrap_u8]; omega) | omega)) (Ext.refl _)
                  · intro vals W e HD ho K hK
                    refine st_quiet (v := ?_) ?_ ?_
                    rotate_left
                    · go_simp
                      rfl
                    exact hK _ _ _ rfl (by first | exact rfl | exact congrArg (Value.int _) (by first | (rw [IntKind.wrap_i64]; omega) | (rw [IntKind.wrap_u8]; omega) | omega)) (Ext.refl _)
                  · intro vals W e HD ho K hK
                    refine st_quiet (v := ?_) ?_ ?_
                    rotate_left
                    · go_simp
                      rfl
                    exact hK _ _ _ rfl (by first | exact rfl | exact congrArg (Value.int _) (by first | (rw [IntKind.wrap_i64]; omega) | (rw [IntKind.wrap_u8]; omega) | omega)) (Ext.refl _)
                  · intro vals W e HD ho K hK
                    refine st_quiet (v := ?_) ?_ ?_
                    rotate_left
                    · go_simp
                      rfl
                    exact hK _ _ _ rfl (by first | exact rfl | exact congrArg (Value.int _) (by first | (rw [IntKind.wrap_i64]; omega) | (rw [IntKind.wrap_u8]; omega) | omega)) (Ext.refl _)
                  · intro vals W e HD ho K hK
                    have h1 : vals 1 = .string s := HD 1 (by kernel_rfl)
                    have h2 : vals 2 = .int .i64 (f : Int) := HD 2 (by kernel_rfl)
                    have h3 : vals 3 = .int .i64 (i : Int) := HD 3 (by kernel_rfl)
                    refine st_slice _ (.tmp 43) (some (.tmp 44)) (some (.tmp 45)) s f i rfl Try.underlying9 h1 h2 h3 (by omega) (by omega) ?_
                    exact hK _ _ _ rfl (congrArg Value.string HR.out.symm) (Ext.refl _)
                  · intro vals W e HD ho K hK
                    have h4 : vals 4 = .string r := HD 4 (by kernel_rfl)
                    go_wp2_with fail
                    refine (plainly_any r.size r _ rfl (by have := HRS.out; omega)).mono ?_
                    rintro e' W' ⟨rfl, h'⟩
                    exact hK _ _ _ (by first | rfl | (simp only [h4]; rfl)) rfl h'
                  · intro vals W e HD ho K hK
                    have h0 : vals 0 = .string (bs ol) := HD 0 (by kernel_rfl)
                    have h5 : vals 5 = .string (bs (plainF (lst r))) := HD 5 (by kernel_rfl)
                    refine st_concat (.tmp 42) (.tmp 47) _ _ _ _ rfl h0 h5 (by have := HOL.out; have := HPL.out; rw [size_bs, size_bs]; omega) ?_
                    exact hK _ _ _ rfl rfl (Ext.refl _)
                  · intro vals W e HD ho K hK
                    refine st_quiet (v := ?_) ?_ ?_
                    rotate_left
                    · go_simp
                      rfl
                    exact hK _ _ _ rfl (by first | exact rfl | exact congrArg (Value.int _) (by first | (rw [IntKind.wrap_i64]; omega) | (rw [IntKind.wrap_u8]; omega) | omega)) (Ext.refl _)
                  · intro vals W e HD ho K hK
                    have h7 : vals 7 = .int .i64 (n : Int) := HD 7 (by kernel_rfl)
                    refine st_quiet (v := ?_) ?_ ?_
                    rotate_left
                    · go_simp
                      rfl
                    exact hK _ _ _ rfl (by first | exact rfl | exact congrArg (Value.int _) (by first | (rw [IntKind.wrap_i64]; omega) | (rw [IntKind.wrap_u8]; omega) | omega)) (Ext.refl _)
                  · intro vals W e HD ho K hK
                    have h8 : vals 8 = .int .i64 (124 + (n : Int)) := HD 8 (by kernel_rfl)
                    refine st_quiet (v := ?_) ?_ ?_
                    rotate_left
                    · go_simp
                      rfl
                    exact hK _ _ _ rfl (by first | exact rfl | exact congrArg (Value.int _) (by first | (rw [IntKind.wrap_i64]; omega) | (rw [IntKind.wrap_u8]; omega) | omega)) (Ext.refl _)
                  · intro vals W e HD ho K hK
                    refine st_quiet (v := ?_) ?_ ?_
                    rotate_left
                    · go_simp
                      rfl
                    exact hK _ _ _ rfl (by first | exact rfl | exact congrArg (Value.int _) (by first | (rw [IntKind.wrap_i64]; omega) | (rw [IntKind.wrap_u8]; omega) | omega)) (Ext.refl _)
                  · intro vals W e HD ho K hK
                    have h10 : vals 10 = .int .i64 (d' : Int) := HD 10 (by kernel_rfl)
                    refine st_quiet (v := ?_) ?_ ?_
                    rotate_left
                    · go_simp
                      rfl
                    exact hK _ _ _ rfl (by first | exact rfl | exact congrArg (Value.int _) (by first | (rw [IntKind.wrap_i64]; omega) | (rw [IntKind.wrap_u8]; omega) | omega)) (Ext.refl _)
                  · intro vals W e HD ho K hK
                    have h9 : vals 9 = .int .u8 (124 + (n : Int)) := HD 9 (by kernel_rfl)
                    have h11 : vals 11 = .int .u8 (d' : Int) := HD 11 (by kernel_rfl)
                    go_wp2_with fail
                    exact hK _ _ _ (by first | rfl | (simp only [h9, h11]; rfl)) ⟨W.heap.size, rfl, Blk_.new _ _ _⟩ ((Ext.refl W).alloc _)
                  · intro vals W e HD ho K hK
                    obtain ⟨g12, h12, b12⟩ := HD 12 (by kernel_rfl)
                    refine wp_conv2 (.tmp 54) 102 9 5 rfl Try.underlying102 Try.underlying5 Try.underlying9 g12 _ _ (by go_simp; try rfl) b12 ?_
                    exact hK _ _ _ rfl rfl (Ext.refl _)
                  · intro vals W e HD ho K hK
                    have h6 : vals 6 = .string (bs ol ++ bs (plainF (lst r))) := HD 6 (by kernel_rfl)
                    have h13 : vals 13 = .string (bs [byte (124 + (n : Int)), byte (d' : Int)]) := HD 13 (by kernel_rfl)
                    refine st_concat (.tmp 48) (.tmp 55) _ _ _ _ rfl h6 h13 (by have := HOL.out; have := HPL.out; rw [ByteArray.size_append, size_bs, size_bs, size_bs]; simp only [List.length_cons, List.length_nil]; omega) ?_
                    exact hK _ _ _ rfl rfl (Ext.refl _)
                  · intro vals W e HD ho K hK
                    have h14 : vals 14 = .string (bs ol ++ bs (plainF (lst r)) ++ bs [byte (124 + (n : Int)), byte (d' : Int)]) := HD 14 (by kernel_rfl)
                    refine st_quiet (v := ?_) ?_ ?_
                    rotate_left
                    · go_simp
                      rfl
                    exact hK _ _ _ rfl (by first | exact rfl | exact congrArg (Value.int _) (by first | (rw [IntKind.wrap_i64]; omega) | (rw [IntKind.wrap_u8]; omega) | omega)) (Ext.refl _)
                intro vals W e hall
                have h15 : vals 15 = .string (bs ol ++ bs (plainF (lst r)) ++ bs [byte (124 + (n : Int)), byte (d' : Int)]) := hall 15 (by decide)
                rw [HJ.out] at h15
                clear hall
                go_wp2_with fail
                go_roundw
                case rel => exact ⟨_, i + n, i + n, h15, by first | rfl | go_num, by first | rfl | go_num, by omega, HN.out.2, HLEN.out, hx2.drew.trans e, HNX.out⟩
                case measure => have := HI.out; have := hN4.out; (simp [intOf]; try omega)
          · have q1 : decide ((d : Int) ≤ 255) = false := by simp; omega
            have HPE0 := Lib.hid (show pieceF s i 1 0 0 = (best, back) by rw [← HEP.out]; exact piece_end (fun h => hc1 h.1))
            obtain ⟨n, hn⟩ : ∃ n, n = best := ⟨_, rfl⟩
            obtain ⟨d', hd'⟩ : ∃ d', d' = back := ⟨_, rfl⟩
            have HPE := HPE0
            rw [← hn, ← hd'] at HPE
            rw [← hn, ← hd']
            have hd255 : (d' : Int) ≤ 255 := by omega
            have hx2 : Ext w wr := hx.trans hxq
            clear hc1 hi HEP HPE0 hn hd' hb1 hb2 hd1 hd2 hd3
            by_cases h4 : n < 4
            · have t3 : decide ((n : Int) < 4) = true := by simp; omega
              have HNX := Lib.hid (show packF s ol f (i + 1) = packF s [] 0 0 by rw [← HEQ.out]; exact (pack_plain HI.out (by rw [HPE.out]; exact h4)).symm)
              clear h4
              go_wp2_with fail
              go_roundw
              case rel => exact ⟨ol, f, i + 1, rfl, rfl, by first | rfl | go_num, by have := HFI.out; omega, by have := HI.out; omega, HOL.out, hx2, HNX.out⟩
              case measure => have := HI.out; (simp [intOf]; try omega)
            · have t3 : decide ((n : Int) < 4) = false := by simp; omega
              obtain ⟨r, hr⟩ : ∃ r, r = s.extract f i := ⟨_, rfl⟩
              have HRS := Lib.hid (show r.size = i - f by rw [hr, ByteArray.size_extract]; have := HI.out; omega)
              have HRL := Lib.hid (show lst r = sub_ s f i by rw [hr]; exact lst_ext s f i)
              have HR := Lib.hid hr
              have HPL := Lib.hid (show (plainF (lst r)).length ≤ 2 * (i - f) by have := plain_len2 (lst r); rw [length_lst, HRS.out] at this; exact this)
              have HB := Lib.hid (piece_le s i (by have := HI.out; omega))
              have HN := Lib.hid (show n ≤ 131 ∧ i + n ≤ s.size by have := HB.out; rw [HPE.out] at this; exact this)
              have HNX := Lib.hid (show packF s (ol ++ plainF (lst r) ++ [UInt8.ofNat (124 + n), UInt8.ofNat d']) (i + n) (i + n) = packF s [] 0 0 by rw [← HEQ.out, HRL.out]; exact (pack_piece HI.out HPE.out h4).symm)
              have HLEN := Lib.hid (show (ol ++ plainF (lst r) ++ [UInt8.ofNat (124 + n), UInt8.ofNat d']).length ≤ 2 * (i + n) by
                have h1 := HOL.out; have h2 := HPL.out; have h3 := HFI.out
                rw [List.length_append, List.length_append]; simp only [List.length_cons, List.length_nil]; omega)
              have HJ := Lib.hid (show bs ol ++ bs (plainF (lst r)) ++ bs [byte (124 + (n : Int)), byte (d' : Int)] = bs (ol ++ plainF (lst r) ++ [UInt8.ofNat (124 + n), UInt8.ofNat d']) by rw [bs_app, bs_app, byte_124, byte_cast])
              have hfi := HFI.out
              have hn131 : (n : Int) ≤ 131 := by have := HN.out.1; omega
              have hN4 := Lib.hid h4
              clear hr h4
              go_wp2_with fail
              refine wp_region_vals (F := ?_) ?_ [(fun (v : Value) (_ : World) => v = .string (bs ol)), (fun (v : Value) (_ : World) => v = .string s), (fun (v : Value) (_ : World) => v = .int .i64 (f : Int)), (fun (v : Value) (_ : World) => v = .int .i64 (i : Int)), (fun (v : Value) (_ : World) => v = .string r), (fun (v : Value) (_ : World) => v = .string (bs (plainF (lst r)))), (fun (v : Value) (_ : World) => v = .string (bs ol ++ bs (plainF (lst r)))), (fun (v : Value) (_ : World) => v = .int .i64 (n : Int)), (fun (v : Value) (_ : World) => v = .int .i64 (124 + (n : Int))), (fun (v : Value) (_ : World) => v = .int .u8 (124 + (n : Int))), (fun (v : Value) (_ : World) => v = .int .i64 (d' : Int)), (fun (v : Value) (_ : World) => v = .int .u8 (d' : Int)), (fun v w => ∃ g, v = .slice (some ⟨g, 0, none⟩) 2 2 ∧ Blk_ w g 5 #[.int .u8 (124 + (n : Int)), .int .u8 (d' : Int)]), (fun (v : Value) (_ : World) => v = .string (bs [byte (124 + (n : Int)), byte (d' : Int)])), (fun (v : Value) (_ : World) => v = .string (bs ol ++ bs (plainF (lst r)) ++ bs [byte (124 + (n : Int)), byte (d' : Int)])), (fun (v : Value) (_ : World) => v = .string (bs ol ++ bs (plainF (lst r)) ++ bs [byte (124 + (n : Int)), byte (d' : Int)]))] (by kernel_rfl) (by kernel_rfl) ?_ ?_ ?_
              rotate_left
              · intro vals
                simp only [putAll, Act.put, List.setIfInBounds_toArray, List.set_cons_zero, List.set_cons_succ, Nat.zero_add, Nat.reduceAdd]
                rfl
              · simp only [List.forall_mem_cons]
                exact ⟨fun _ _ _ h _ => h, fun _ _ _ h _ => h, fun _ _ _ h _ => h, fun _ _ _ h _ => h, fun _ _ _ h _ => h, fun _ _ _ h _ => h, fun _ _ _ h _ => h, fun _ _ _ h _ => h, fun _ _ _ h _ => h, fun _ _ _ h _ => h, fun _ _ _ h _ => h, fun _ _ _ h _ => h, fun _ _ _ h e => (by obtain ⟨g, hg, hb⟩ := h; exact ⟨g, hg, hb.ext e⟩), fun _ _ _ h _ => h, fun _ _ _ h _ => h, fun _ _ _ h _ => h, fun _ h => (by cases h)⟩
              · refine ⟨?_, ?_, ?_, ?_, ?_, ?_, ?_, ?_, ?_, ?_, ?_, ?_, ?_, ?_, ?_, ?_, trivial⟩
                · intro vals W e HD ho K hK
                  have o15 : vals 15 = .string (bs ol) := ho 15 (by kernel_rfl)
                  refine st_quiet (v := ?_) ?_ ?_
                  rotate_left
                  · go_simp
                    rfl
                  exact hK _ _ _ rfl (by first | exact rfl | exact congrArg (Value.int _) (by first | (rw [IntKind.wrap_i64]; omega) | (rw [IntKind.wrap_u8]; omega) | omega)) (Ext.refl _)
                · intro vals W e HD ho K hK
                  refine st_quiet (v := ?_) ?_ ?_
                  rotate_left
                  · go_simp
                    rfl
                  exact hK _ _ _ rfl (by first | exact rfl | exact congrArg (Value.int _) (by first | (rw [IntKind.wrap_i64]; omega) | (rw [IntKind.wrap_u8]; omega) | omega)) (Ext.refl _)
                · intro vals W e HD ho K hK
                  refine st_quiet (v := ?_) ?_ ?_
                  rotate_left
                  · go_simp
                    rfl
                  exact hK _ _ _ rfl (by first | exact rfl | exact congrArg (Value.int _) (by first | (rw [IntKind.wrap_i64]; omega) | (rw [IntKind.wrap_u8]; omega) | omega)) (Ext.refl _)
                · intro vals W e HD ho K hK
                  refine st_quiet (v := ?_) ?_ ?_
                  rotate_left
                  · go_simp
                    rfl
                  exact hK _ _ _ rfl (by first | exact rfl | exact congrArg (Value.int _) (by first | (rw [IntKind.wrap_i64]; omega) | (rw [IntKind.wrap_u8]; omega) | omega)) (Ext.refl _)
                · intro vals W e HD ho K hK
                  have h1 : vals 1 = .string s := HD 1 (by kernel_rfl)
                  have h2 : vals 2 = .int .i64 (f : Int) := HD 2 (by kernel_rfl)
                  have h3 : vals 3 = .int .i64 (i : Int) := HD 3 (by kernel_rfl)
                  refine st_slice _ (.tmp 43) (some (.tmp 44)) (some (.tmp 45)) s f i rfl Try.underlying9 h1 h2 h3 (by omega) (by omega) ?_
                  exact hK _ _ _ rfl (congrArg Value.string HR.out.symm) (Ext.refl _)
                · intro vals W e HD ho K hK
                  have h4 : vals 4 = .string r := HD 4 (by kernel_rfl)
                  go_wp2_with fail
                  refine (plainly_any r.size r _ rfl (by have := HRS.out; omega)).mono ?_
                  rintro e' W' ⟨rfl, h'⟩
                  exact hK _ _ _ (by first | rfl | (simp only [h4]; rfl)) rfl h'
                · intro vals W e HD ho K hK
                  have h0 : vals 0 = .string (bs ol) := HD 0 (by kernel_rfl)
                  have h5 : vals 5 = .string (bs (plainF (lst r))) := HD 5 (by kernel_rfl)
                  refine st_concat (.tmp 42) (.tmp 47) _ _ _ _ rfl h0 h5 (by have := HOL.out; have := HPL.out; rw [size_bs, size_bs]; omega) ?_
                  exact hK _ _ _ rfl rfl (Ext.refl _)
                · intro vals W e HD ho K hK
                  refine st_quiet (v := ?_) ?_ ?_
                  rotate_left
                  · go_simp
                    rfl
                  exact hK _ _ _ rfl (by first | exact rfl | exact congrArg (Value.int _) (by first | (rw [IntKind.wrap_i64]; omega) | (rw [IntKind.wrap_u8]; omega) | omega)) (Ext.refl _)
                · intro vals W e HD ho K hK
                  have h7 : vals 7 = .int .i64 (n : Int) := HD 7 (by kernel_rfl)
                  refine st_quiet (v := ?_) ?_ ?_
                  rotate_left
                  · go_simp
                    rfl
                  exact hK _ _ _ rfl (by first | exact rfl | exact congrArg (Value.int _) (by first | (rw [IntKind.wrap_i64]; omega) | (rw [IntKind.wrap_u8]; omega) | omega)) (Ext.refl _)
                · intro vals W e HD ho K hK
                  have h8 : vals 8 = .int .i64 (124 + (n : Int)) := HD 8 (by kernel_rfl)
                  refine st_quiet (v := ?_) ?_ ?_
                  rotate_left
                  · go_simp
                    rfl
                  exact hK _ _ _ rfl (by first | exact rfl | exact congrArg (Value.int _) (by first | (rw [IntKind.wrap_i64]; omega) | (rw [IntKind.wrap_u8]; omega) | omega)) (Ext.refl _)
                · intro vals W e HD ho K hK
                  refine st_quiet (v := ?_) ?_ ?_
                  rotate_left
                  · go_simp
                    rfl
                  exact hK _ _ _ rfl (by first | exact rfl | exact congrArg (Value.int _) (by first | (rw [IntKind.wrap_i64]; omega) | (rw [IntKind.wrap_u8]; omega) | omega)) (Ext.refl _)
                · intro vals W e HD ho K hK
                  have h10 : vals 10 = .int .i64 (d' : Int) := HD 10 (by kernel_rfl)
                  refine st_quiet (v := ?_) ?_ ?_
                  rotate_left
                  · go_simp
                    rfl
                  exact hK _ _ _ rfl (by first | exact rfl | exact congrArg (Value.int _) (by first | (rw [IntKind.wrap_i64]; omega) | (rw [IntKind.wrap_u8]; omega) | omega)) (Ext.refl _)
                · intro vals W e HD ho K hK
                  have h9 : vals 9 = .int .u8 (124 + (n : Int)) := HD 9 (by kernel_rfl)
                  have h11 : vals 11 = .int .u8 (d' : Int) := HD 11 (by kernel_rfl)
                  go_wp2_with fail
                  exact hK _ _ _ (by first | rfl | (simp only [h9, h11]; rfl)) ⟨W.heap.size, rfl, Blk_.new _ _ _⟩ ((Ext.refl W).alloc _)
                · intro vals W e HD ho K hK
                  obtain ⟨g12, h12, b12⟩ := HD 12 (by kernel_rfl)
                  refine wp_conv2 (.tmp 54) 102 9 5 rfl Try.underlying102 Try.underlying5 Try.underlying9 g12 _ _ (by go_simp; try rfl) b12 ?_
                  exact hK _ _ _ rfl rfl (Ext.refl _)
                · intro vals W e HD ho K hK
                  have h6 : vals 6 = .string (bs ol ++ bs (plainF (lst r))) := HD 6 (by kernel_rfl)
                  have h13 : vals 13 = .string (bs [byte (124 + (n : Int)), byte (d' : Int)]) := HD 13 (by kernel_rfl)
                  refine st_concat (.tmp 48) (.tmp 55) _ _ _ _ rfl h6 h13 (by have := HOL.out; have := HPL.out; rw [ByteArray.size_append, size_bs, size_bs, size_bs]; simp only [List.length_cons, List.length_nil]; omega) ?_
                  exact hK _ _ _ rfl rfl (Ext.refl _)
                · intro vals W e HD ho K hK
                  have h14 : vals 14 = .string (bs ol ++ bs (plainF (lst r)) ++ bs [byte (124 + (n : Int)), byte (d' : Int)]) := HD 14 (by kernel_rfl)
                  refine st_quiet (v := ?_) ?_ ?_
                  rotate_left
                  · go_simp
                    rfl
                  exact hK _ _ _ rfl (by first | exact rfl | exact congrArg (Value.int _) (by first | (rw [IntKind.wrap_i64]; omega) | (rw [IntKind.wrap_u8]; omega) | omega)) (Ext.refl _)
              intro vals W e hall
              have h15 : vals 15 = .string (bs ol ++ bs (plainF (lst r)) ++ bs [byte (124 + (n : Int)), byte (d' : Int)]) := hall 15 (by decide)
              rw [HJ.out] at h15
              clear hall
              go_wp2_with fail
              go_roundw
              case rel => exact ⟨_, i + n, i + n, h15, by first | rfl | go_num, by first | rfl | go_num, by omega, HN.out.2, HLEN.out, hx2.drew.trans e, HNX.out⟩
              case measure => have := HI.out; have := hN4.out; (simp [intOf]; try omega)
      · have t2 : decide ((i : Int) < (s.size : Int)) = false := by simp; omega
        have hie : i = s.size := by omega
        obtain ⟨r, hr⟩ : ∃ r, r = s.extract f s.size := ⟨_, rfl⟩
        have HRS := Lib.hid (show r.size = s.size - f by rw [hr, ByteArray.size_extract]; omega)
        have HFIN := Lib.hid (show bs ol ++ bs (plainF (lst r)) = bs (packF s [] 0 0) by rw [bs_app, ← HEQ.out, pack_stop hi, hr, lst_ext])
        have HPL := Lib.hid (show (plainF (lst r)).length ≤ 2 * (s.size - f) by have := plain_len2 (lst r); rw [length_lst, HRS.out] at this; exact this)
        have HR := Lib.hid hr
        have hfs : (f : Int) ≤ (s.size : Int) := by omega
        have hfs' : (f : Int) ≤ 600 := by omega
        have hf0 : f ≤ s.size := by omega
        have hcc : ¬ (9223372036854775807 < ol.length + (plainF (lst r)).length) := by have := HOL.out; have := HPL.out; omega
        clear hie t2 hr hfi
        go_wp2_with fail
        rw [← HR.out]
        refine (plainly_any r.size r _ rfl (by have := HRS.out; omega)).mono ?_
        rintro e' W' ⟨rfl, h'⟩
        go_wp2_with fail
        go_ret2
        exact ⟨by rw [HFIN.out]; rfl, hx.trans h'⟩

end Go.Proofs.Ytdogkekeccbpnaa
