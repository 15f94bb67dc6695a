/-
  sector.Encode and the document's SectorBytes: the bytes of a sector, or why there are none; the law SectorEncodes. Conditions: the text is no longer than a text may be.
-/
import Derived.Test.YtjadmfdlggnlgaaGreatDoorV4
import Derived.Laws.MakeOwn
namespace Go.Proofs.YtjadmfdlggnlgaaGreatDoor
set_option linter.unusedSimpArgs false
set_option linter.unusedVariables false
set_option maxRecDepth 100000
set_option maxHeartbeats 8000000
open Go.RowKit
theorem repeat_one (c : UInt8) (n : Nat) : Lib.repeatL [c] n = List.replicate n c := by
 induction n with
 | zero => rfl
 | succ n ih => unfold Lib.repeatL; rw [ih]; rfl
theorem repeat_any (n : Int) (w : World) (h0 : 0 ≤ n) (hn : n ≤ 140737488355328) :
  Calls Tryz.prog 20 #[.string ⟨#[0]⟩, .int .i64 n] w fun e w' => e = .returned (.string (bs (List.replicate n.toNat 0))) ∧ Ext w w' := by
 obtain ⟨n, rfl⟩ := Int.eq_ofNat_of_zero_le h0
 refine (Tryz.strings_Repeat ⟨#[0]⟩ n w (by omega) (by show 1 * n ≤ _; omega)).mono ?_
 rintro e w' ⟨rfl, h⟩
 refine ⟨?_, h⟩
 have : Lib.repeatL ([0] : List UInt8) n = List.replicate n 0 := repeat_one 0 n
 exact ret_str (by show (⟨(Lib.repeatL ([0] : List UInt8) n).toArray⟩ : ByteArray) = _; rw [this]; rfl)
theorem noughts_any (n : Int) (w : World) (h0 : 0 ≤ n) (hn : n ≤ 140737488355328) :
  Calls Tryz.prog 29 #[.int .i64 n] w fun e w' => e = .returned (.string (bs (List.replicate n.toNat 0))) ∧ Ext w w' := by
 obtain ⟨n, rfl⟩ := Int.eq_ofNat_of_zero_le h0
 go_enter Tryz.func29, Tryz.ntmps29
 go_wp2
 go_loop [0, 3] (fun i s => ∃ k : Nat, k ≤ n ∧ i = .int .i64 ((n - k : Nat) : Int) ∧ s = .string (bs (List.replicate k 0))) (fun i _ => (intOf i).toNat)
 case atStart => exact ⟨0, Nat.zero_le _, by simp, rfl⟩
 case round =>
  obtain ⟨k, hk, rfl, rfl⟩ := hrel
  by_cases hlt : k < n
  ·have h1 : (0 : Int) < ((n - k : Nat) : Int) := by omega
   have h2 : ((n - k : Nat) : Int) ≤ 140737488355328 := by omega
   go_wp2
   go_round
   case rel => exact ⟨k + 1, by omega, by go_num, by congr 1; show bs (List.replicate k 0) ++ bs [0] = _; rw [bs_append]; simp [List.replicate_succ']⟩
   case measure => simp [intOf]; omega
  ·obtain rfl : k = n := by omega
   go_wp2
   go_ret
   exact ⟨rfl, Ext.refl _⟩
theorem rawS_join (no : Int) (s : ByteArray) : bs [byte (no / 256), byte (no % 256)] ++ s ++ bs (List.replicate (24 - s.size) 0) = bs (rawS no s) := by
 rw [lst_append_bs, bs_append]; unfold rawS; simp
theorem rawS_small {no : Int} {s : ByteArray} (h2 : s.size ≤ 24) : (bs (rawS no s)).size ≤ 140737488355328 := by
 rw [size_bs, rawS_length h2]; decide
theorem encode_ok (no : Int) (s : ByteArray) (w : World) (h0 : 0 ≤ no) (h1 : no ≤ 65535) (h2 : s.size ≤ 24) :
  Calls Tryz.prog 124 #[.int .i64 no, .string s] w fun e w' => e = .returned (.tuple #[.string (bs (rawS no s ++ sealOf (rawS no s))), .int .i64 0]) ∧ Ext w w' := by
 have hq : (0 : Int) ≤ no / 256 := by omega
 have hq2 : no / 256 ≤ 255 := by omega
 have hc1 : ¬ (9223372036854775807 < 2 + s.size) := by omega
 have hc2 : ¬ (9223372036854775807 < 2 + s.size + (24 - s.size)) := by omega
 have HS := Lib.hid (rawS_small (no := no) h2)
 go_enter Tryz.func124, Tryz.ntmps124
 go_wp2_with fail
 refine wp_region_begin (S := fun _ => True) (n := 14) (by kernel_rfl) rfl (by kernel_rfl) rfl ?_
 refine tkL 0 rfl (fun w' hS => by go_simp; rfl) trivial ?_
 refine tkL 1 rfl (fun w' hS => by go_simp; rfl) trivial ?_
 refine tkL 2 rfl (fun w' hS => by go_simp; rfl) trivial ?_
 try simp only [Act.put, List.setIfInBounds_toArray, List.set_cons_zero, List.set_cons_succ]
 refine tkL 3 rfl (fun w' hS => by go_simp; rfl) trivial ?_
 refine tkL 4 rfl (fun w' hS => by go_simp; rfl) trivial ?_
 refine tkL 7 rfl (fun w' hS => by go_simp; rfl) trivial ?_
 try simp only [Act.put, List.setIfInBounds_toArray, List.set_cons_zero, List.set_cons_succ]
 refine tkL 9 rfl (fun w' hS => by go_simp; rfl) trivial ?_
 refine tkL 10 rfl (fun w' hS => by go_simp; rfl) trivial ?_
 refine tkL 11 rfl (fun w' hS => by go_simp; rfl) trivial ?_
 try simp only [Act.put, List.setIfInBounds_toArray, List.set_cons_zero, List.set_cons_succ]
 refine wpAnyH_twoL (i := 5) (j := 12) rfl rfl (by kernel_rfl) rfl rfl (fun K hK => ?_) (fun K hK => ?_)
 ·go_wp2_with fail
  refine hK _ _ trivial ?_
  clear hK K
  try simp only [Act.put, List.setIfInBounds_toArray, List.set_cons_zero, List.set_cons_succ]
  refine anyH_abs (fun W => Ext w W ∧ Blk_ W w.heap.size 5 #[.int .u8 (no / 256), .int .u8 (no % 256)]) ⟨(Ext.refl w).drew.alloc _, by first | exact Blk_.new _ _ _ | exact (Blk_.new _ _ _).drew⟩ ?_
  rintro W5 ⟨eW5, bW5⟩
  refine wpAnyH_twoL (i := 6) (j := 12) rfl rfl (by kernel_rfl) rfl rfl (fun K hK => ?_) (fun K hK => ?_)
  ·refine wp_conv2 (.tmp 21) 47 9 5 rfl Tryz.underlying47 Tryz.underlying5 Tryz.underlying9 w.heap.size _ _ rfl bW5 ?_
   refine hK _ _ trivial ?_
   clear hK K
   refine tkL 8 rfl (fun w' hS => by go_simp; rfl) trivial ?_
   try simp only [Act.put, List.setIfInBounds_toArray, List.set_cons_zero, List.set_cons_succ]
   refine wpAnyH_oneL (i := 12) rfl (by kernel_rfl) rfl (fun K hK => ?_)
   go_wp2_with fail
   refine (repeat_any _ _ (by omega) (by omega)).mono ?_
   rintro e W6 ⟨rfl, hW6⟩
   have eW6 := eW5.trans hW6
   refine hK _ _ trivial ?_
   clear hK K
   refine tkL 13 rfl (fun w' hS => by go_simp; rfl) trivial ?_
   try simp only [Act.put, List.setIfInBounds_toArray, List.set_cons_zero, List.set_cons_succ]
   refine wpAnyH_endL (by kernel_rfl) (fun K hK => ?_)
   rw [rawS_join no s]
   have hsz := HS.out
   have hbl : (bs (rawS no s)).size = 26 := by rw [size_bs, rawS_length h2]
   generalize hbe : bs (rawS no s) = b at *
   have HE := Lib.hid hbe
   clear hbe
   have hc3 : ¬ (9223372036854775807 < b.size + 4) := by omega
   have hc4 : ¬ (9223372036854775807 < b.size + (sealOf (lst b)).length) := by rw [length_sealOf]; omega
   go_wp2_with fail
   refine (sumOf_any b _ hsz).mono ?_
   rintro e w9 ⟨rfl, h9⟩
   go_wp2_with fail
   go_ret2
   refine ⟨?_, eW6.trans h9⟩
   rw [← HE.out, lst_bs, bs_append]
   rfl
  ·go_wp2_with fail
   refine (repeat_any _ _ (by omega) (by omega)).mono ?_
   rintro e W6 ⟨rfl, hW6⟩
   have eW6 := eW5.trans hW6
   refine hK _ _ trivial ?_
   clear hK K
   try simp only [Act.put, List.setIfInBounds_toArray, List.set_cons_zero, List.set_cons_succ]
   refine wpAnyH_oneL (i := 6) rfl (by kernel_rfl) rfl (fun K hK => ?_)
   have bW6 := bW5.ext hW6
   refine wp_conv2 (.tmp 21) 47 9 5 rfl Tryz.underlying47 Tryz.underlying5 Tryz.underlying9 w.heap.size _ _ rfl bW6 ?_
   refine hK _ _ trivial ?_
   clear hK K
   refine tkL 8 rfl (fun w' hS => by go_simp; rfl) trivial ?_
   refine tkL 13 rfl (fun w' hS => by go_simp; rfl) trivial ?_
   try simp only [Act.put, List.setIfInBounds_toArray, List.set_cons_zero, List.set_cons_succ]
   refine wpAnyH_endL (by kernel_rfl) (fun K hK => ?_)
   rw [rawS_join no s]
   have hsz := HS.out
   have hbl : (bs (rawS no s)).size = 26 := by rw [size_bs, rawS_length h2]
   generalize hbe : bs (rawS no s) = b at *
   have HE := Lib.hid hbe
   clear hbe
   have hc3 : ¬ (9223372036854775807 < b.size + 4) := by omega
   have hc4 : ¬ (9223372036854775807 < b.size + (sealOf (lst b)).length) := by rw [length_sealOf]; omega
   go_wp2_with fail
   refine (sumOf_any b _ hsz).mono ?_
   rintro e w9 ⟨rfl, h9⟩
   go_wp2_with fail
   go_ret2
   refine ⟨?_, eW6.trans h9⟩
   rw [← HE.out, lst_bs, bs_append]
   rfl
 ·go_wp2_with fail
  refine (repeat_any _ _ (by omega) (by omega)).mono ?_
  rintro e W5 ⟨rfl, hW5⟩
  have eW5 := (Ext.refl w).drew.trans hW5
  refine hK _ _ trivial ?_
  clear hK K
  try simp only [Act.put, List.setIfInBounds_toArray, List.set_cons_zero, List.set_cons_succ]
  refine wpAnyH_oneL (i := 5) rfl (by kernel_rfl) rfl (fun K hK => ?_)
  go_wp2_with fail
  refine hK _ _ trivial ?_
  clear hK K
  try simp only [Act.put, List.setIfInBounds_toArray, List.set_cons_zero, List.set_cons_succ]
  refine anyH_abs (fun W => Ext w W ∧ Blk_ W W5.heap.size 5 #[.int .u8 (no / 256), .int .u8 (no % 256)]) ⟨eW5.alloc _, by first | exact Blk_.new _ _ _ | exact (Blk_.new _ _ _).drew⟩ ?_
  rintro W6 ⟨eW6, bW6⟩
  refine wpAnyH_oneL (i := 6) rfl (by kernel_rfl) rfl (fun K hK => ?_)
  refine wp_conv2 (.tmp 21) 47 9 5 rfl Tryz.underlying47 Tryz.underlying5 Tryz.underlying9 W5.heap.size _ _ rfl bW6 ?_
  refine hK _ _ trivial ?_
  clear hK K
  refine tkL 8 rfl (fun w' hS => by go_simp; rfl) trivial ?_
  refine tkL 13 rfl (fun w' hS => by go_simp; rfl) trivial ?_
  try simp only [Act.put, List.setIfInBounds_toArray, List.set_cons_zero, List.set_cons_succ]
  refine wpAnyH_endL (by kernel_rfl) (fun K hK => ?_)
  rw [rawS_join no s]
  have hsz := HS.out
  have hbl : (bs (rawS no s)).size = 26 := by rw [size_bs, rawS_length h2]
  generalize hbe : bs (rawS no s) = b at *
  have HE := Lib.hid hbe
  clear hbe
  have hc3 : ¬ (9223372036854775807 < b.size + 4) := by omega
  have hc4 : ¬ (9223372036854775807 < b.size + (sealOf (lst b)).length) := by rw [length_sealOf]; omega
  go_wp2_with fail
  refine (sumOf_any b _ hsz).mono ?_
  rintro e w9 ⟨rfl, h9⟩
  go_wp2_with fail
  go_ret2
  refine ⟨?_, eW6.trans h9⟩
  rw [← HE.out, lst_bs, bs_append]
  rfl
theorem bytes_ok (no : Int) (s : ByteArray) (w : World) (h0 : 0 ≤ no) (h1 : no ≤ 65535) (h2 : s.size ≤ 24) :
  Calls Tryz.prog 114 #[.int .i64 no, .string s] w fun e w' => e = .returned (.tuple #[.string (bs (rawS no s ++ sealOf (rawS no s))), .int .i64 0]) ∧ Ext w w' := by
 have hq : (0 : Int) ≤ no / 256 := by omega
 have hq2 : no / 256 ≤ 255 := by omega
 have hc1 : ¬ (9223372036854775807 < 2 + s.size) := by omega
 have hc2 : ¬ (9223372036854775807 < 2 + s.size + (24 - s.size)) := by omega
 have HS := Lib.hid (rawS_small (no := no) h2)
 go_enter Tryz.func114, Tryz.ntmps114
 go_wp2_with (go_at_call 55; refine (in_true _ _ _ _ h0 h1).mono ?_; rintro e w1 ⟨rfl, rfl⟩)
 refine wp_region_begin (S := fun _ => True) (n := 15) (by kernel_rfl) rfl (by kernel_rfl) rfl ?_
 refine tkL 0 rfl (fun w' hS => by go_simp; rfl) trivial ?_
 refine tkL 1 rfl (fun w' hS => by go_simp; rfl) trivial ?_
 refine tkL 2 rfl (fun w' hS => by go_simp; rfl) trivial ?_
 try simp only [Act.put, List.setIfInBounds_toArray, List.set_cons_zero, List.set_cons_succ]
 refine tkL 3 rfl (fun w' hS => by go_simp; rfl) trivial ?_
 refine tkL 4 rfl (fun w' hS => by go_simp; rfl) trivial ?_
 refine tkL 5 rfl (fun w' hS => by go_simp; rfl) trivial ?_
 try simp only [Act.put, List.setIfInBounds_toArray, List.set_cons_zero, List.set_cons_succ]
 refine tkL 8 rfl (fun w' hS => by go_simp; rfl) trivial ?_
 refine tkL 10 rfl (fun w' hS => by go_simp; rfl) trivial ?_
 refine tkL 11 rfl (fun w' hS => by go_simp; rfl) trivial ?_
 try simp only [Act.put, List.setIfInBounds_toArray, List.set_cons_zero, List.set_cons_succ]
 refine tkL 12 rfl (fun w' hS => by go_simp; rfl) trivial ?_
 try simp only [Act.put, List.setIfInBounds_toArray, List.set_cons_zero, List.set_cons_succ]
 refine wpAnyH_twoL (i := 6) (j := 13) rfl rfl (by kernel_rfl) rfl rfl (fun K hK => ?_) (fun K hK => ?_)
 ·go_wp2_with fail
  refine hK _ _ trivial ?_
  clear hK K
  try simp only [Act.put, List.setIfInBounds_toArray, List.set_cons_zero, List.set_cons_succ]
  refine anyH_abs (fun W => Ext w W ∧ Blk_ W w.heap.size 5 #[.int .u8 (no / 256), .int .u8 (no % 256)]) ⟨(Ext.refl w).drew.alloc _, by first | exact Blk_.new _ _ _ | exact (Blk_.new _ _ _).drew⟩ ?_
  rintro W5 ⟨eW5, bW5⟩
  refine wpAnyH_twoL (i := 7) (j := 13) rfl rfl (by kernel_rfl) rfl rfl (fun K hK => ?_) (fun K hK => ?_)
  ·refine wp_conv2 (.tmp 19) 47 9 5 rfl Tryz.underlying47 Tryz.underlying5 Tryz.underlying9 w.heap.size _ _ rfl bW5 ?_
   refine hK _ _ trivial ?_
   clear hK K
   refine tkL 9 rfl (fun w' hS => by go_simp; rfl) trivial ?_
   try simp only [Act.put, List.setIfInBounds_toArray, List.set_cons_zero, List.set_cons_succ]
   refine wpAnyH_oneL (i := 13) rfl (by kernel_rfl) rfl (fun K hK => ?_)
   go_wp2_with fail
   refine (noughts_any _ _ (by omega) (by omega)).mono ?_
   rintro e W6 ⟨rfl, hW6⟩
   have eW6 := eW5.trans hW6
   refine hK _ _ trivial ?_
   clear hK K
   refine tkL 14 rfl (fun w' hS => by go_simp; rfl) trivial ?_
   try simp only [Act.put, List.setIfInBounds_toArray, List.set_cons_zero, List.set_cons_succ]
   refine wpAnyH_endL (by kernel_rfl) (fun K hK => ?_)
   rw [rawS_join no s]
   have hsz := HS.out
   have hbl : (bs (rawS no s)).size = 26 := by rw [size_bs, rawS_length h2]
   generalize hbe : bs (rawS no s) = b at *
   have HE := Lib.hid hbe
   clear hbe
   have hc3 : ¬ (9223372036854775807 < b.size + 4) := by omega
   have hc4 : ¬ (9223372036854775807 < b.size + (sealOf (lst b)).length) := by rw [length_sealOf]; omega
   go_wp2_with fail
   refine (sealOf_any b _ hsz).mono ?_
   rintro e w9 ⟨rfl, h9⟩
   go_wp2_with fail
   go_ret2
   refine ⟨?_, eW6.trans h9⟩
   rw [← HE.out, lst_bs, bs_append]
   rfl
  ·go_wp2_with fail
   refine (noughts_any _ _ (by omega) (by omega)).mono ?_
   rintro e W6 ⟨rfl, hW6⟩
   have eW6 := eW5.trans hW6
   refine hK _ _ trivial ?_
   clear hK K
   try simp only [Act.put, List.setIfInBounds_toArray, List.set_cons_zero, List.set_cons_succ]
   refine wpAnyH_oneL (i := 7) rfl (by kernel_rfl) rfl (fun K hK => ?_)
   have bW6 := bW5.ext hW6
   refine wp_conv2 (.tmp 19) 47 9 5 rfl Tryz.underlying47 Tryz.underlying5 Tryz.underlying9 w.heap.size _ _ rfl bW6 ?_
   refine hK _ _ trivial ?_
   clear hK K
   refine tkL 9 rfl (fun w' hS => by go_simp; rfl) trivial ?_
   refine tkL 14 rfl (fun w' hS => by go_simp; rfl) trivial ?_
   try simp only [Act.put, List.setIfInBounds_toArray, List.set_cons_zero, List.set_cons_succ]
   refine wpAnyH_endL (by kernel_rfl) (fun K hK => ?_)
   rw [rawS_join no s]
   have hsz := HS.out
   have hbl : (bs (rawS no s)).size = 26 := by rw [size_bs, rawS_length h2]
   generalize hbe : bs (rawS no s) = b at *
   have HE := Lib.hid hbe
   clear hbe
   have hc3 : ¬ (9223372036854775807 < b.size + 4) := by omega
   have hc4 : ¬ (9223372036854775807 < b.size + (sealOf (lst b)).length) := by rw [length_sealOf]; omega
   go_wp2_with fail
   refine (sealOf_any b _ hsz).mono ?_
   rintro e w9 ⟨rfl, h9⟩
   go_wp2_with fail
   go_ret2
   refine ⟨?_, eW6.trans h9⟩
   rw [← HE.out, lst_bs, bs_append]
   rfl
 ·go_wp2_with fail
  refine (noughts_any _ _ (by omega) (by omega)).mono ?_
  rintro e W5 ⟨rfl, hW5⟩
  have eW5 := (Ext.refl w).drew.trans hW5
  refine hK _ _ trivial ?_
  clear hK K
  try simp only [Act.put, List.setIfInBounds_toArray, List.set_cons_zero, List.set_cons_succ]
  refine wpAnyH_oneL (i := 6) rfl (by kernel_rfl) rfl (fun K hK => ?_)
  go_wp2_with fail
  refine hK _ _ trivial ?_
  clear hK K
  try simp only [Act.put, List.setIfInBounds_toArray, List.set_cons_zero, List.set_cons_succ]
  refine anyH_abs (fun W => Ext w W ∧ Blk_ W W5.heap.size 5 #[.int .u8 (no / 256), .int .u8 (no % 256)]) ⟨eW5.alloc _, by first | exact Blk_.new _ _ _ | exact (Blk_.new _ _ _).drew⟩ ?_
  rintro W6 ⟨eW6, bW6⟩
  refine wpAnyH_oneL (i := 7) rfl (by kernel_rfl) rfl (fun K hK => ?_)
  refine wp_conv2 (.tmp 19) 47 9 5 rfl Tryz.underlying47 Tryz.underlying5 Tryz.underlying9 W5.heap.size _ _ rfl bW6 ?_
  refine hK _ _ trivial ?_
  clear hK K
  refine tkL 9 rfl (fun w' hS => by go_simp; rfl) trivial ?_
  refine tkL 14 rfl (fun w' hS => by go_simp; rfl) trivial ?_
  try simp only [Act.put, List.setIfInBounds_toArray, List.set_cons_zero, List.set_cons_succ]
  refine wpAnyH_endL (by kernel_rfl) (fun K hK => ?_)
  rw [rawS_join no s]
  have hsz := HS.out
  have hbl : (bs (rawS no s)).size = 26 := by rw [size_bs, rawS_length h2]
  generalize hbe : bs (rawS no s) = b at *
  have HE := Lib.hid hbe
  clear hbe
  have hc3 : ¬ (9223372036854775807 < b.size + 4) := by omega
  have hc4 : ¬ (9223372036854775807 < b.size + (sealOf (lst b)).length) := by rw [length_sealOf]; omega
  go_wp2_with fail
  refine (sealOf_any b _ hsz).mono ?_
  rintro e w9 ⟨rfl, h9⟩
  go_wp2_with fail
  go_ret2
  refine ⟨?_, eW6.trans h9⟩
  rw [← HE.out, lst_bs, bs_append]
  rfl
theorem encode_bad1 (no : Int) (s : ByteArray) (h : no < 0 ∨ 65535 < no) : encodeS no s = (.empty, 2) := by unfold encodeS; rw [if_pos h]
theorem encode_bad2 (no : Int) (s : ByteArray) (h : ¬ (no < 0 ∨ 65535 < no)) (h2 : 24 < s.size) : encodeS no s = (.empty, 1) := by unfold encodeS; rw [if_neg h, if_pos h2]
theorem encode_any (no : Int) (s : ByteArray) (w : World) (hn : I64 no) (hs : s.size ≤ 140737488355328) :
  Calls Tryz.prog 124 #[.int .i64 no, .string s] w fun e w' => e = .returned (.tuple #[.string (encodeS no s).1, .int .i64 (encodeS no s).2]) ∧ Ext w w' := by
 by_cases h : no < 0 ∨ 65535 < no
 ·rw [encode_bad1 no s h]
  by_cases h1 : no < 0
  ·clear h
   go_enter Tryz.func124, Tryz.ntmps124
   go_wp2
   go_ret2
   exact ⟨rfl, Ext.refl _⟩
  ·have h2 : 65535 < no := by omega
   clear h
   go_enter Tryz.func124, Tryz.ntmps124
   go_wp2
   go_ret2
   exact ⟨rfl, Ext.refl _⟩
 ·by_cases h2 : 24 < s.size
  ·rw [encode_bad2 no s h h2]
   have h3 : 0 ≤ no := by omega
   have h4 : no ≤ 65535 := by omega
   have h5 : (24 : Int) < (s.size : Int) := by omega
   clear h
   go_enter Tryz.func124, Tryz.ntmps124
   go_wp2
   go_ret2
   exact ⟨rfl, Ext.refl _⟩
  ·rw [encodeS_ok (by omega) (by omega) (by omega)]
   exact encode_ok no s w (by omega) (by omega) (by omega)
theorem sectorBytes_any (no : Int) (s : ByteArray) (w : World) (hn : I64 no) (hs : s.size ≤ 140737488355328) :
  Calls Tryz.prog 114 #[.int .i64 no, .string s] w fun e w' => e = .returned (.tuple #[.string (encodeS no s).1, .int .i64 (encodeS no s).2]) ∧ Ext w w' := by
 by_cases h : no < 0 ∨ 65535 < no
 ·rw [encode_bad1 no s h]
  go_enter Tryz.func114, Tryz.ntmps114
  go_wp2_with (go_at_call 55; refine (in_false _ _ _ _ h).mono ?_; rintro e w1 ⟨rfl, rfl⟩)
  go_ret2
  exact ⟨rfl, Ext.refl _⟩
 ·by_cases h2 : 24 < s.size
  ·rw [encode_bad2 no s h h2]
   have h3 : 0 ≤ no := by omega
   have h4 : no ≤ 65535 := by omega
   have h5 : (24 : Int) < (s.size : Int) := by omega
   clear h
   go_enter Tryz.func114, Tryz.ntmps114
   go_wp2_with (go_at_call 55; refine (in_true _ _ _ _ h3 h4).mono ?_; rintro e w1 ⟨rfl, rfl⟩)
   go_ret2
   exact ⟨rfl, Ext.refl _⟩
  ·rw [encodeS_ok (by omega) (by omega) (by omega)]
   exact bytes_ok no s w (by omega) (by omega) (by omega)
def Buf (e : TypeId) (w : World) (g : Nat) (l : List UInt8) : Prop :=
 ∃ cs fr, w.heap[g]? = some (.cells cs e fr) ∧ (∀ i, i < l.length → cs[i]? = some (.int .u8 ((l.getD i 0).toNat : Int))) ∧ ∀ i, i < l.length → ¬ (fr.1 ≤ i ∧ i < fr.2)
theorem Buf.cell {e : TypeId} {w : World} {g : Nat} {l : List UInt8} (h : Buf e w g l) (i : Nat) (hi : i < l.length) : w.cell? ⟨g, i, none⟩ = some (.int .u8 ((l.getD i 0).toNat : Int)) := by
 obtain ⟨cs, fr, h, hc, _⟩ := h
 rw [← hc i hi]
 simp [World.cell?, h]
theorem Buf.frozen {e : TypeId} {w : World} {g : Nat} {l : List UInt8} (h : Buf e w g l) (i : Nat) (hi : i < l.length) : w.frozen? ⟨g, i, none⟩ = false := by
 obtain ⟨cs, fr, h, _, hf⟩ := h
 have := hf i hi
 simp only [World.frozen?, h]
 by_cases h1 : fr.1 ≤ i
 ·have h2 : ¬ i < fr.2 := fun h2 => this ⟨h1, h2⟩
  simp [h2]
 ·simp [h1]
theorem byte_u8 (c : UInt8) : byte (c.toNat : Int) = c := by
 unfold byte
 rw [Int.toNat_natCast, UInt8.ofNat_toNat]
theorem byte_nat_ (n : Int) (h0 : 0 ≤ n) (h1 : n < 256) : ((byte n).toNat : Int) = n := by
 unfold byte
 rw [UInt8.toNat_ofNat']
 omega
theorem Buf.set {e : TypeId} {w : World} {g : Nat} {l : List UInt8} (h : Buf e w g l) (i : Nat) (c : Int) (h0 : 0 ≤ c) (h1 : c < 256) : Buf e (w.setCell ⟨g, i, none⟩ (.int .u8 c)) g (l.set i (byte c)) := by
 obtain ⟨cs, fr, h, hc, hf⟩ := h
 refine ⟨cs.setIfInBounds i (.int .u8 c), fr, by simp [World.setCell, Array.getElem?_modify, h], fun j hj => ?_, fun j hj => hf j (by simpa using hj)⟩
 rw [List.length_set] at hj
 have hcj := hc j hj
 have hsz : j < cs.size := (Array.getElem?_eq_some_iff.1 hcj).1
 rw [Array.getElem?_setIfInBounds]
 by_cases he : i = j
 ·subst he
  rw [if_pos rfl, if_pos hsz, List.getD_eq_getElem?_getD, List.getElem?_set_self hj]
  simp only [Option.getD_some]
  rw [byte_nat_ c h0 h1]
 ·rw [if_neg he, hcj, List.getD_eq_getElem?_getD, List.getD_eq_getElem?_getD, List.getElem?_set_ne he]
theorem Buf.made (e : TypeId) (w : World) (s : ByteArray) (cap : Nat) (hc : s.size ≤ cap) : Buf e (w.drew.alloc (.cells (bytesRow s cap) e ((bytesRow s cap).size, (bytesRow s cap).size + 1))) w.heap.size (lst s) := by
 refine ⟨bytesRow s cap, _, heap_alloc_new w.drew _, fun i hi => ?_, fun i hi => ?_⟩
 ·rw [length_lst] at hi
  rw [bytesRow_at s cap i hi, List.getD_eq_getElem?_getD, List.getElem?_eq_getElem (by rw [length_lst]; exact hi)]
  rfl
 ·rw [length_lst] at hi
  have : s.size ≤ (bytesRow s cap).size := by
   unfold bytesRow
   rw [Array.size_append, Array.size_map]
   exact Nat.le_add_right _ _
  omega
section
variable {P : Program} {Q : Exit → Act → World → Prop}
theorem Buf.back {e : TypeId} {w : World} {g : Nat} {l : List UInt8} (h : Buf e w g l) (src dst : TypeId) (hs : P.underlying src = some (.slice e)) (he : P.underlying e = some (.int .u8)) (hd : P.underlying dst = some .string) (cap : Nat) :
  (convert src dst (.slice (some ⟨g, 0, none⟩) l.length cap)).run P w = .ok (.string (bs l)) w := by
 have hc := run_conv_lit (P := P) w src dst e hs he hd ⟨g, 0, none⟩ cap (l.map fun c => (c.toNat : Int)) (fun j u hu => by
  rw [Addr.add_lit, Nat.zero_add]
  rw [List.map_map, List.getElem?_map, Option.map_eq_some_iff] at hu
  obtain ⟨c, hc, hu⟩ := hu
  have hj := (List.getElem?_eq_some_iff.1 hc).1
  rw [h.cell j hj, List.getD_eq_getElem?_getD, hc, ← hu]
  rfl)
 rw [List.length_map, List.map_map] at hc
 have : List.map (byte ∘ fun c : UInt8 => (c.toNat : Int)) l = l := by
  have h1 : (byte ∘ fun c : UInt8 => (c.toNat : Int)) = id := funext fun c => byte_u8 c
  rw [h1, List.map_id]
 rw [this] at hc
 exact hc
theorem wpList_tobytes {ops : Array Oper} {rest : List Oper} {o : Oper} {a : Act} {w : World} (x : Operand) (src dst e : TypeId) (ho : o.op = .convert src dst x) (hgd : o.guard = none) (hs : P.underlying src = some .string) (hd : P.underlying dst = some (.slice e)) (he : P.underlying e = some (.int .u8))
  (s : ByteArray) (hx : a.eval x = .string s)
  (h : ∀ g cap w', w.heap.size ≤ g → Ext w w' → Buf e w' g (lst s) → s.size ≤ cap → wpList P ops Q rest (a.put o.dst (.slice (some ⟨g, 0, none⟩) s.size cap)) w') : wpList P ops Q (o :: rest) a w := by
 refine wpList_plain hgd fun K hK => ?_
 have hr := run_bytes_of_string (P := P) w src dst e s hs hd he
 unfold Oper.wp execOp
 simp only [ho, Sem.run_bind, hx, hr, Result.andThen_ok, Sem.run_pure, Oper.upon]
 exact hK _ _ (h _ _ _ (Nat.le_refl _) ((Ext.refl w).drew.alloc _) (Buf.made e w s _ (grownCap_ge _ _ _ _)) (grownCap_ge _ _ _ _))
theorem wpList_frombytes {ops : Array Oper} {rest : List Oper} {o : Oper} {a : Act} {w : World} (x : Operand) (src dst e : TypeId) (ho : o.op = .convert src dst x) (hgd : o.guard = none) (hs : P.underlying src = some (.slice e)) (he : P.underlying e = some (.int .u8)) (hd : P.underlying dst = some .string)
  (g n cap : Nat) (l : List UInt8) (hb : Buf e w g l) (hn : n = l.length) (hx : a.eval x = .slice (some ⟨g, 0, none⟩) n cap)
  (h : wpList P ops Q rest (a.put o.dst (.string (bs l))) w) : wpList P ops Q (o :: rest) a w := by
 subst hn
 refine wpList_plain hgd fun K hK => ?_
 have hr := hb.back (P := P) src dst hs he hd cap
 unfold Oper.wp execOp
 simp only [ho, Sem.run_bind, hx, hr, Result.andThen_ok, Sem.run_pure, Oper.upon]
 exact hK _ _ h
end

theorem write_good {d : Dev} {k : Nat} {no : Int} {s : ByteArray} (h : touchCode d k = 0) (h2 : (encodeS no s).2 = 0) : writeS d k no s = (⟨d.sec.set k (encodeS no s).1, d.lost.set k false⟩, 0) := by
 unfold writeS; rw [if_pos h, if_pos h2]; rfl
theorem write_bad2 {d : Dev} {n no : Int} {s : ByteArray} (h : touchCode d n = 0) (h2 : ¬ (encodeS no s).2 = 0) : writeS d n no s = (⟨[], []⟩, (encodeS no s).2) := by
 unfold writeS; rw [if_pos h, if_neg h2]
theorem write_bad1 {d : Dev} {n no : Int} {s : ByteArray} (h : ¬ touchCode d n = 0) : writeS d n no s = (⟨[], []⟩, touchCode d n) := by
 unfold writeS; rw [if_neg h]
theorem devWrite_any (cs : List Value) (d : Dev) (n no : Int) (s : ByteArray) (w : World) (h : RDev w cs d) (hn : I64 n) (ho : I64 no) (hs : s.size ≤ 140737488355328) :
  Calls Tryz.prog 107 #[.agg cs.toArray, .int .i64 n, .int .i64 no, .string s] w fun e w' => ∃ A1 c1 A2 c2, e = .returned (.tuple #[.agg #[.slice A1 (writeS d n no s).1.sec.length c1, .slice A2 (writeS d n no s).1.lost.length c2], .int .i64 (writeS d n no s).2]) ∧ Ext w w' ∧
   ODev 9 4 w' w.heap.size (.slice A1 (writeS d n no s).1.sec.length c1) (.slice A2 (writeS d n no s).1.lost.length c2) (writeS d n no s).1 := by
 obtain ⟨A1, c1, A2, c2, rfl⟩ := h.form
 go_enter Tryz.func107, Tryz.ntmps107
 go_wp2_with fail
 refine calls_abs (fun W => Ext w W ∧ Blk_ W w.heap.size 35 #[.slice A1 d.sec.length c1, .slice A2 d.lost.length c2] ∧ Blk_ W (w.heap.size + 1) 35 #[.slice none 0 0, .slice none 0 0]) ⟨((Ext.refl _).alloc _).alloc _, (Blk_.new _ _ _).alloc _, Blk_.new1 _ _ _ _⟩ ?_
 rintro W ⟨hx, hbk, hbr⟩
 refine (devAt_any [.slice A1 d.sec.length c1, .slice A2 d.lost.length c2] d n W (h.up hx) hn).mono ?_
 rintro e w1 ⟨rfl, hx1⟩
 have hb1 := hbk.ext hx1
 have hbr1 := hbr.ext hx1
 have f0 := hb1.cell 0
 have f1 := hb1.cell 1
 simp at f0 f1
 have hr1 := h.up (hx.trans hx1)
 have hx0 := hx.trans hx1
 clear h hbk hbr hx hx1
 by_cases hc : touchCode d n = 0
 ·rw [hc]
  have hcold := hc
  go_wp2_with fail
  refine (encode_any no s _ ho hs).mono ?_
  rintro e w1' ⟨rfl, hx1'⟩
  have hbr1_ := hbr1.ext hx1'
  have hb1_ := hb1.ext hx1'
  have hr1_ := hr1.up hx1'
  have hx0_ := hx0.trans hx1'
  have f0_ := hx1'.cell f0
  have f1_ := hx1'.cell f1
  clear hbr1 hb1 hr1 hx0 f0 f1 hx1'
  have hbr1 := hbr1_; have hb1 := hb1_; have hr1 := hr1_; have hx0 := hx0_; have f0 := f0_; have f1 := f1_
  clear hbr1_ hb1_ hr1_ hx0_ f0_ f1_
  by_cases hE : (encodeS no s).2 = 0
  ·obtain ⟨hm, n0, n1⟩ := touch_zero hc
   obtain ⟨m1, m2, m3, m4⟩ := devMay_len hm
   obtain ⟨k, rfl⟩ := Int.eq_ofNat_of_zero_le n0
   have hf := write_good (d := d) (k := k) (no := no) (s := s) hc hE
   have HT := Lib.hid (encodeS_small no s)
   have hlp : 0 < d.sec.length := by omega
   have hlp2 : 0 < d.lost.length := by omega
   have hk2' : (k : Int) < (d.sec.length : Int) := by omega
   have hk3' : (k : Int) < (d.lost.length : Int) := by omega
   rw [hE]
   have HF := Lib.hid hf
   clear hf hc hcold hE m4 hm m1 m2 m3 n0
   generalize hT : (encodeS no s).1 = T at *
   have HTE := Lib.hid hT
   clear hT
   go_wp2_with fail
   refine (devCopy_any [.slice A1 d.sec.length c1, .slice A2 d.lost.length c2] d _ hr1).mono ?_
   rintro e w2 ⟨B1, k1, B2, k2, rfl, hx2, o1, o2⟩
   have hod := hr1.own o1 o2
   clear o1 o2
   have hb2 := hb1.ext hx2
   have hbr2 := hbr1.ext hx2
   obtain ⟨g, rfl, hg1, hg2, hg3⟩ := own_form hod.1 hlp
   obtain ⟨g2, rfl, hg4, hg5, hg6⟩ := own_form hod.2.1 hlp2
   have hgg : g ≠ g2 := by
    rintro rfl
    exact own_other hod.1 hod.2.1 (by decide) rfl
   have hgg2 : ¬ (g2 = g) := fun e => hgg e.symm
   have hgg1 : ¬ (g = g2) := hgg
   have g0 := hb2.cell 0
   have g1 := hb2.cell 1
   have z0 := hb2.frozen 0
   have z1 := hb2.frozen 1
   have y0 := hbr2.cell 0
   have y1 := hbr2.cell 1
   have x0 := hbr2.frozen 0
   have x1 := hbr2.frozen 1
   simp at g0 g1 y0 y1
   have hlt := hbr1.lt
   have hlt2 := hbr2.lt
   have hlt3 := hb2.lt
   have ck := (hod.1.cellAt k (by omega)).trans (flat_str_get d.sec k (by omega))
   have ck2 := (hod.2.1.cellAt k (by omega)).trans (flat_bool_get d.lost k (by omega))
   have zk := hg3 k
   have zk2 := hg6 k
   have ne1 : ¬ (w.heap.size = g) := by omega
   have ne2 : ¬ (g = w.heap.size) := by omega
   have ne3 : ¬ (w.heap.size + 1 = g) := by omega
   have ne4 : ¬ (g = w.heap.size + 1) := by omega
   have ne5 : ¬ (w.heap.size = g2) := by omega
   have ne6 : ¬ (g2 = w.heap.size) := by omega
   have ne7 : ¬ (w.heap.size + 1 = g2) := by omega
   have ne8 : ¬ (g2 = w.heap.size + 1) := by omega
   have hgw : w.heap.size ≤ g := by omega
   have hgw2 : w.heap.size ≤ g2 := by omega
   have HX := Lib.hid (hx0.trans hx2)
   have HO := Lib.hid hod
   clear hr1 f0 f1 hb1 hbr1 hx0 hx2 hg3 hg6 hod
   have HU := Lib.hid ((hb2.set 0 (.slice (some ⟨g, 0, none⟩) d.sec.length k1)).set 1 (.slice (some ⟨g2, 0, none⟩) d.lost.length k2))
   have HR := Lib.hid ((hbr2.far (p := ⟨w.heap.size, 0, none⟩) (by simp) (.slice (some ⟨g, 0, none⟩) d.sec.length k1)).far (p := ⟨w.heap.size, 1, none⟩) (by simp) (.slice (some ⟨g2, 0, none⟩) d.lost.length k2))
   have HO3 := Lib.hid ((HO.out.far (p := ⟨w.heap.size, 0, none⟩) (by simp; omega) (.slice (some ⟨g, 0, none⟩) d.sec.length k1)).far (p := ⟨w.heap.size, 1, none⟩) (by simp; omega) (.slice (some ⟨g2, 0, none⟩) d.lost.length k2))
   have X3 := Lib.hid ((HX.out.setCell (p := ⟨w.heap.size, 0, none⟩) (by simp) (.slice (some ⟨g, 0, none⟩) d.sec.length k1)).setCell (p := ⟨w.heap.size, 1, none⟩) (by simp) (.slice (some ⟨g2, 0, none⟩) d.lost.length k2))
   clear hb2 hbr2
   go_wp2_with fail
   refine wp_abs (fun W => Ext w W ∧ Blk_ W w.heap.size 35 _ ∧ Blk_ W (w.heap.size + 1) 35 _ ∧ ODev 9 4 W w1'.heap.size (.slice (some ⟨g, 0, none⟩) d.sec.length k1) (.slice (some ⟨g2, 0, none⟩) d.lost.length k2) d) ⟨X3.out, HU.out, HR.out, HO3.out⟩ ?_
   rintro W3 ⟨e3, b3, r3, o3⟩
   clear HU HR HO3 X3 z0 z1 x0 x1 y0 y1 g0 g1 ck ck2 zk zk2
   have q0 := b3.cell 0
   have q1 := b3.cell 1
   have z0 := b3.frozen 0
   have z1 := b3.frozen 1
   have y0 := r3.cell 0
   have y1 := r3.cell 1
   have x0 := r3.frozen 0
   have x1 := r3.frozen 1
   simp at q0 q1 y0 y1
   have ck := (o3.1.cellAt k (by omega)).trans (flat_str_get d.sec k (by omega))
   have ck2 := (o3.2.1.cellAt k (by omega)).trans (flat_bool_get d.lost k (by omega))
   have zk := o3.1.frozenAt k
   have zk2 := o3.2.1.frozenAt k
   refine wp_region_begin (S := fun W' => W'.cell? ⟨w.heap.size, 0, none⟩ = some (.slice (some ⟨g, 0, none⟩) d.sec.length k1) ∧ W'.cell? ⟨w.heap.size, 1, none⟩ = some (.slice (some ⟨g2, 0, none⟩) d.lost.length k2)) (n := 10) (by kernel_rfl) rfl (by kernel_rfl) rfl ?_
   have hS0 : (fun W' => W'.cell? ⟨w.heap.size, 0, none⟩ = some (.slice (some ⟨g, 0, none⟩) d.sec.length k1) ∧ W'.cell? ⟨w.heap.size, 1, none⟩ = some (.slice (some ⟨g2, 0, none⟩) d.lost.length k2)) W3.drew := ⟨q0, q1⟩
   refine tkL 0 rfl (fun w' hS => by (try dsimp only at hS); go_simp; rfl) hS0 ?_
   refine tkL 1 rfl (fun w' hS => by (try dsimp only at hS); go_simp; rfl) hS0 ?_
   refine tkL 2 rfl (fun w' hS => by (try dsimp only at hS); go_simp; rfl) hS0 ?_
   try simp only [Act.put, List.setIfInBounds_toArray, List.set_cons_zero, List.set_cons_succ]
   refine tkL 3 rfl (fun w' hS => by (try dsimp only at hS); go_simp; rfl) hS0 ?_
   refine tkL 4 rfl (fun w' hS => by (try dsimp only at hS); go_simp; rfl) hS0 ?_
   refine tkL 5 rfl (fun w' hS => by (try dsimp only at hS); go_simp; rfl) hS0 ?_
   try simp only [Act.put, List.setIfInBounds_toArray, List.set_cons_zero, List.set_cons_succ]
   refine tkL 6 rfl (fun w' hS => by (try dsimp only at hS); go_simp; rfl) hS0 ?_
   refine tkL 7 rfl (fun w' hS => by (try dsimp only at hS); go_simp; rfl) hS0 ?_
   try simp only [Act.put, List.setIfInBounds_toArray, List.set_cons_zero, List.set_cons_succ]
   refine wpAnyH_oneL (i := 8) rfl (by kernel_rfl) rfl (fun K hK => ?_)
   go_wp2_with fail
   have b4 := b3.far (p := ⟨g, k, none⟩) ne1 (.string T)
   have r4 := r3.far (p := ⟨g, k, none⟩) ne3 (.string T)
   have o4 := o3.setSec rfl (by decide) k T (by have := HT.out; omega)
   have e4 := e3.setCell (p := ⟨g, k, none⟩) (by simp; omega) (.string T)
   have q4 := b4.cell 0
   have q5 := b4.cell 1
   simp at q4 q5
   refine hK _ _ ⟨q4, q5⟩ ?_
   clear hK K
   refine wpAnyH_takeL (i := 9) (v := ?_) rfl (by kernel_rfl) (fun _ _ _ h => h) rfl ?_ ⟨q4, q5⟩ ?_
   rotate_left
   ·intro w' hS
    try dsimp only at hS
    go_simp
    rfl
   try simp only [Act.put, List.setIfInBounds_toArray, List.set_cons_zero, List.set_cons_succ]
   refine wpAnyH_endL (by kernel_rfl) (fun K hK => ?_)
   have b5 := b4.far (p := ⟨g2, k, none⟩) ne5 (.bool false)
   have r5 := r4.far (p := ⟨g2, k, none⟩) ne7 (.bool false)
   have HB := Lib.hid ((r5.set 0 (.slice (some ⟨g, 0, none⟩) d.sec.length k1)).set 1 (.slice (some ⟨g2, 0, none⟩) d.lost.length k2))
   have HO5 := Lib.hid (o4.setLost rfl (by decide) k false)
   have HE := Lib.hid e4
   clear b3 r3 o3 e3 b4 r4 o4 e4 b5 r5 q4 q5 hS0
   go_wp2_with fail
   refine bodyPost_ret (res_cell_tmp rfl rfl HB.out Tryz.underlying35 rfl (by kernel_rfl)) rfl ?_
   rw [HF.out]
   refine ⟨some ⟨g, 0, none⟩, k1, some ⟨g2, 0, none⟩, k2, ?_, ?_, ?_⟩
   ·rw [List.length_set, List.length_set]; rfl
   ·exact (((HE.out.setCell (p := ⟨g2, k, none⟩) hgw2 _).setCell (p := ⟨w.heap.size + 1, 0, none⟩) (Nat.le_succ _) _).setCell (p := ⟨w.heap.size + 1, 1, none⟩) (Nat.le_succ _) _).drew
   ·have o6 := ((HO5.out.far (p := ⟨w.heap.size + 1, 0, none⟩) (by simp; omega) (.slice (some ⟨g, 0, none⟩) d.sec.length k1)).far (p := ⟨w.heap.size + 1, 1, none⟩) (by simp; omega) (.slice (some ⟨g2, 0, none⟩) d.lost.length k2)).base (base' := w.heap.size) (by omega)
    rw [List.length_set, List.length_set]
    exact o6
  ·have hf := write_bad2 hc hE
   have hE' : ((encodeS no s).2 != 0) = true := by simpa using hE
   have HF := Lib.hid hf
   clear hf
   clear hc hcold hE hr1
   have y0 := hbr1.cell 0
   have y1 := hbr1.cell 1
   have x0 := hbr1.frozen 0
   have x1 := hbr1.frozen 1
   simp at y0 y1
   have HB := Lib.hid ((hbr1.set 0 (.slice none 0 0)).set 1 (.slice none 0 0))
   generalize (encodeS no s).2 = t at *
   go_wp2_with fail
   refine bodyPost_ret (res_cell_tmp rfl rfl HB.out Tryz.underlying35 rfl (by kernel_rfl)) rfl ?_
   rw [HF.out]
   refine ⟨none, 0, none, 0, rfl, (hx0.setCell (by simp) _).setCell (by simp) _, ?_⟩
   exact ⟨World.ownsRow_nil _ _ _ _, World.ownsRow_nil _ _ _ _, by simp, by simp, fun s hs => by cases hs⟩
 ·have hf := write_bad1 (no := no) (s := s) hc
  have hc' : (touchCode d n != 0) = true := by simpa using hc
  have HF := Lib.hid hf
  clear hf
  clear hc hr1
  have y0 := hbr1.cell 0
  have y1 := hbr1.cell 1
  have x0 := hbr1.frozen 0
  have x1 := hbr1.frozen 1
  simp at y0 y1
  have HB := Lib.hid ((hbr1.set 0 (.slice none 0 0)).set 1 (.slice none 0 0))
  generalize touchCode d n = t at *
  go_wp2_with fail
  refine bodyPost_ret (res_cell_tmp rfl rfl HB.out Tryz.underlying35 rfl (by kernel_rfl)) rfl ?_
  rw [HF.out]
  refine ⟨none, 0, none, 0, rfl, (hx0.setCell (by simp) _).setCell (by simp) _, ?_⟩
  exact ⟨World.ownsRow_nil _ _ _ _, World.ownsRow_nil _ _ _ _, by simp, by simp, fun s hs => by cases hs⟩
theorem deviceWritten_any (cs : List Value) (d : Dev) (n no : Int) (s : ByteArray) (w : World) (h : RDev w cs d) (hn : I64 n) (ho : I64 no) (hs : s.size ≤ 140737488355328) :
  Calls Tryz.prog 88 #[.agg cs.toArray, .int .i64 n, .int .i64 no, .string s] w fun e w' => ∃ A1 c1 A2 c2, e = .returned (.tuple #[.agg #[.slice A1 (writeS d n no s).1.sec.length c1, .slice A2 (writeS d n no s).1.lost.length c2], .int .i64 (writeS d n no s).2]) ∧ Ext w w' ∧
   ODev 9 4 w' w.heap.size (.slice A1 (writeS d n no s).1.sec.length c1) (.slice A2 (writeS d n no s).1.lost.length c2) (writeS d n no s).1 := by
 obtain ⟨A1, c1, A2, c2, rfl⟩ := h.form
 go_enter Tryz.func88, Tryz.ntmps88
 go_wp2_with fail
 refine calls_abs (fun W => Ext w W ∧ Blk_ W w.heap.size 35 #[.slice A1 d.sec.length c1, .slice A2 d.lost.length c2] ∧ Blk_ W (w.heap.size + 1) 35 #[.slice none 0 0, .slice none 0 0]) ⟨((Ext.refl _).alloc _).alloc _, (Blk_.new _ _ _).alloc _, Blk_.new1 _ _ _ _⟩ ?_
 rintro W ⟨hx, hbk, hbr⟩
 refine (touched_any [.slice A1 d.sec.length c1, .slice A2 d.lost.length c2] d n W (h.up hx) hn).mono ?_
 rintro e w1 ⟨rfl, hx1⟩
 have hb1 := hbk.ext hx1
 have hbr1 := hbr.ext hx1
 have f0 := hb1.cell 0
 have f1 := hb1.cell 1
 simp at f0 f1
 have hr1 := h.up (hx.trans hx1)
 have hx0 := hx.trans hx1
 clear h hbk hbr hx hx1
 by_cases hc : touchCode d n = 0
 ·rw [hc]
  have hcold := hc
  go_wp2_with fail
  refine (sectorBytes_any no s _ ho hs).mono ?_
  rintro e w1' ⟨rfl, hx1'⟩
  have hbr1_ := hbr1.ext hx1'
  have hb1_ := hb1.ext hx1'
  have hr1_ := hr1.up hx1'
  have hx0_ := hx0.trans hx1'
  have f0_ := hx1'.cell f0
  have f1_ := hx1'.cell f1
  clear hbr1 hb1 hr1 hx0 f0 f1 hx1'
  have hbr1 := hbr1_; have hb1 := hb1_; have hr1 := hr1_; have hx0 := hx0_; have f0 := f0_; have f1 := f1_
  clear hbr1_ hb1_ hr1_ hx0_ f0_ f1_
  by_cases hE : (encodeS no s).2 = 0
  ·obtain ⟨hm, n0, n1⟩ := touch_zero hc
   obtain ⟨m1, m2, m3, m4⟩ := devMay_len hm
   obtain ⟨k, rfl⟩ := Int.eq_ofNat_of_zero_le n0
   have hf := write_good (d := d) (k := k) (no := no) (s := s) hc hE
   have HT := Lib.hid (encodeS_small no s)
   have hlp : 0 < d.sec.length := by omega
   have hlp2 : 0 < d.lost.length := by omega
   have hk2' : (k : Int) < (d.sec.length : Int) := by omega
   have hk3' : (k : Int) < (d.lost.length : Int) := by omega
   rw [hE]
   have HF := Lib.hid hf
   clear hf hc hcold hE m4 hm m1 m2 m3 n0
   generalize hT : (encodeS no s).1 = T at *
   have HTE := Lib.hid hT
   clear hT
   go_wp2_with fail
   refine (deviceCopy_any [.slice A1 d.sec.length c1, .slice A2 d.lost.length c2] d _ hr1).mono ?_
   rintro e w2 ⟨B1, k1, B2, k2, rfl, hx2, hod⟩
   have hb2 := hb1.ext hx2
   have hbr2 := hbr1.ext hx2
   obtain ⟨g, rfl, hg1, hg2, hg3⟩ := own_form hod.1 hlp
   obtain ⟨g2, rfl, hg4, hg5, hg6⟩ := own_form hod.2.1 hlp2
   have hgg : g ≠ g2 := by
    rintro rfl
    exact own_other hod.1 hod.2.1 (by decide) rfl
   have hgg2 : ¬ (g2 = g) := fun e => hgg e.symm
   have hgg1 : ¬ (g = g2) := hgg
   have g0 := hb2.cell 0
   have g1 := hb2.cell 1
   have z0 := hb2.frozen 0
   have z1 := hb2.frozen 1
   have y0 := hbr2.cell 0
   have y1 := hbr2.cell 1
   have x0 := hbr2.frozen 0
   have x1 := hbr2.frozen 1
   simp at g0 g1 y0 y1
   have hlt := hbr1.lt
   have hlt2 := hbr2.lt
   have hlt3 := hb2.lt
   have ck := (hod.1.cellAt k (by omega)).trans (flat_str_get d.sec k (by omega))
   have ck2 := (hod.2.1.cellAt k (by omega)).trans (flat_bool_get d.lost k (by omega))
   have zk := hg3 k
   have zk2 := hg6 k
   have ne1 : ¬ (w.heap.size = g) := by omega
   have ne2 : ¬ (g = w.heap.size) := by omega
   have ne3 : ¬ (w.heap.size + 1 = g) := by omega
   have ne4 : ¬ (g = w.heap.size + 1) := by omega
   have ne5 : ¬ (w.heap.size = g2) := by omega
   have ne6 : ¬ (g2 = w.heap.size) := by omega
   have ne7 : ¬ (w.heap.size + 1 = g2) := by omega
   have ne8 : ¬ (g2 = w.heap.size + 1) := by omega
   have hgw : w.heap.size ≤ g := by omega
   have hgw2 : w.heap.size ≤ g2 := by omega
   have HX := Lib.hid (hx0.trans hx2)
   have HO := Lib.hid hod
   clear hr1 f0 f1 hb1 hbr1 hx0 hx2 hg3 hg6 hod
   have ne11 : ¬ (g = w2.heap.size) := by omega
   have ne12 : ¬ (w2.heap.size = g) := by omega
   have ne13 : ¬ (g2 = w2.heap.size) := by omega
   have ne14 : ¬ (w2.heap.size = g2) := by omega
   have ne15 : ¬ (w.heap.size + 1 = w2.heap.size) := by omega
   have ne16 : ¬ (w2.heap.size = w.heap.size + 1) := by omega
   have HB := fun o => Lib.hid (((((hbr2.far (p := ⟨g, k, none⟩) ne3 (.string T)).far (p := ⟨g2, k, none⟩) ne7 (.bool false)).set 0 (.slice (some ⟨g, 0, none⟩) d.sec.length k1)).set 1 (.slice (some ⟨g2, 0, none⟩) d.lost.length k2)).alloc o)
   go_wp2_with fail
   refine bodyPost_ret (res_cell_tmp rfl rfl (HB _).out Tryz.underlying35 rfl (by kernel_rfl)) rfl ?_
   rw [HF.out]
   refine ⟨some ⟨g, 0, none⟩, k1, some ⟨g2, 0, none⟩, k2, ?_, ?_, ?_⟩
   ·rw [List.length_set, List.length_set]; rfl
   ·exact ((((HX.out.setCell (by simp; omega) _).setCell (by simp; omega) _).setCell (by simp) _).setCell (by simp) _).alloc _
   ·have o6 := (((((HO.out.setSec rfl (by decide) k T (by have := HT.out; omega)).setLost rfl (by decide) k false).far (p := ⟨w.heap.size + 1, 0, none⟩) (by simp; omega) (.slice (some ⟨g, 0, none⟩) d.sec.length k1)).far (p := ⟨w.heap.size + 1, 1, none⟩) (by simp; omega) (.slice (some ⟨g2, 0, none⟩) d.lost.length k2)).base (base' := w.heap.size) (by omega))
    rw [List.length_set, List.length_set]
    exact o6.ext ((Ext.refl _).alloc _)
  ·have hf := write_bad2 hc hE
   have hE' : ((encodeS no s).2 != 0) = true := by simpa using hE
   have HF := Lib.hid hf
   clear hf
   clear hc hcold hE hr1
   have y0 := hbr1.cell 0
   have y1 := hbr1.cell 1
   have x0 := hbr1.frozen 0
   have x1 := hbr1.frozen 1
   simp at y0 y1
   have HB := Lib.hid ((hbr1.set 0 (.slice none 0 0)).set 1 (.slice none 0 0))
   generalize (encodeS no s).2 = t at *
   go_wp2_with fail
   refine bodyPost_ret (res_cell_tmp rfl rfl HB.out Tryz.underlying35 rfl (by kernel_rfl)) rfl ?_
   rw [HF.out]
   refine ⟨none, 0, none, 0, rfl, (hx0.setCell (by simp) _).setCell (by simp) _, ?_⟩
   exact ⟨World.ownsRow_nil _ _ _ _, World.ownsRow_nil _ _ _ _, by simp, by simp, fun s hs => by cases hs⟩
 ·have hf := write_bad1 (no := no) (s := s) hc
  have hc' : (touchCode d n != 0) = true := by simpa using hc
  have HF := Lib.hid hf
  clear hf
  clear hc hr1
  have y0 := hbr1.cell 0
  have y1 := hbr1.cell 1
  have x0 := hbr1.frozen 0
  have x1 := hbr1.frozen 1
  simp at y0 y1
  have HB := Lib.hid ((hbr1.set 0 (.slice none 0 0)).set 1 (.slice none 0 0))
  generalize touchCode d n = t at *
  go_wp2_with fail
  refine bodyPost_ret (res_cell_tmp rfl rfl HB.out Tryz.underlying35 rfl (by kernel_rfl)) rfl ?_
  rw [HF.out]
  refine ⟨none, 0, none, 0, rfl, (hx0.setCell (by simp) _).setCell (by simp) _, ?_⟩
  exact ⟨World.ownsRow_nil _ _ _ _, World.ownsRow_nil _ _ _ _, by simp, by simp, fun s hs => by cases hs⟩
theorem own_grown {w w' : World} {base : Nat} {e : TypeId} {size : Nat} {v : Value} {n : Nat} {xs : List Value} {row : Option Nat} (h : w.ownsRow base e size v n xs) (hg : w.grownBy w' row) (hne : ∀ g, v.ownBlock = some g → row ≠ some g) : w'.ownsRow base e size v n xs := by
 have h' := h
 obtain ⟨hl, h⟩ := h
 refine ⟨hl, ?_⟩
 rcases h with h | ⟨g, cap, cur, hv, hb, hgg, r⟩
 ·exact .inl h
 ·have hgb : v.ownBlock = some g := by rw [hv]; rfl
  exact .inr ⟨g, cap, cur, hv, hb, (hg.block g (h'.lt g hgb).2 (Ne.symm (hne g hgb))).trans hgg, r⟩
section
variable {P : Program} {Q : Exit → Act → World → Prop}
theorem wpList_push {ops : Array Oper} {rest : List Oper} {o : Oper} {a : Act} {w : World} (s x : Operand) (t : TypeId)
  (ho : o.op = .call { callee := .builtin .append, args := #[s, x], argTypes := #[t, t] }) (hgd : o.guard = none)
  (base : Nat) (e : TypeId) (i : TypeInfo) (z : Value) (bytes : Nat) (ht : P.underlying t = some (.slice e)) (hi : P.info? e = some i) (hz : i.zero = some z)
  (hsize : i.size = 1) (hby : i.bytes = bytes) (hzs : z.cells.size = 1)
  (v : Value) (n : Nat) (xs : List Value) (hs : a.eval s = v) (hown : w.ownsRow base e 1 v n xs)
  (g c : Nat) (u : Value) (hx : a.eval x = .slice (some ⟨g, 0, none⟩) 1 c) (hu : w.cell? ⟨g, 0, none⟩ = some u) (h1 : u.oneCell' = true)
  (h63 : n + 1 ≤ maxLen) (hbytes : (n + 1) * bytes ≤ 140737488355328) (hbase : base ≤ w.heap.size)
  (h : ∀ A' c' w', w'.ownsRow base e 1 (.slice A' (n + 1) c') (n + 1) (xs ++ [u]) → w.grownBy w' v.ownBlock → ((Value.slice A' (n + 1) c').ownBlock = v.ownBlock ∨ (Value.slice A' (n + 1) c').ownBlock = some w.heap.size) → wpList P ops Q rest (a.put o.dst (.slice A' (n + 1) c')) w') : wpList P ops Q (o :: rest) a w :=
 wpList_append_at w hgd s x t ho base e i z 1 bytes ht hi hz hsize hby hzs (by decide) v n xs hs hown ⟨g, 0, none⟩ 1 c [u] hx rfl (fun j u' hj => by
  match j with
  | 0 => simp at hj; subst hj; exact hu
  | j + 1 => simp at hj) (fun u' hu' => by obtain rfl := List.mem_singleton.1 hu'; exact h1) h63 hbytes hbase h
end


theorem own_buf {w : World} {base : Nat} {e : TypeId} {A : Option Addr} {n c : Nat} {l : List UInt8} (h : w.ownsRow base e 1 (.slice A n c) n (l.flatMap encByte)) (hn : 0 < n) : ∃ g, A = some ⟨g, 0, none⟩ ∧ base ≤ g ∧ Buf e w g l ∧ n = l.length := by
 have h' := h
 have hlen : n = l.length := by
  have h1 := h.1
  rw [length_flatMap (C := 1) (fun _ => rfl)] at h1
  omega
 rcases h.2 with ⟨hv, h0⟩ | ⟨g, cap, cur, hv, hb, hg, _⟩
 ·omega
 ·injection hv with a1 a2 a3
  subst a1
  refine ⟨g, rfl, hb, ⟨cur, (0, 0), hg, fun i hi => ?_, fun i hi => by simp⟩, hlen⟩
  have hc := h'.cellAt i (by omega)
  rw [cell_of_row w g i cur e (0, 0) hg] at hc
  rw [hc]
  have := flatMap_at (enc := encByte) (C := 1) (fun _ => rfl) l i 0 hi (by decide)
  rw [Nat.mul_one, Nat.add_zero] at this
  rw [this, List.getD_eq_getElem?_getD, List.getElem?_eq_getElem hi]
  rfl
theorem info_byte : (Tryz.prog.info? 5).map (fun i => (i.zero, i.size, i.bytes)) = some (some (.int .u8 0), 1, 1) := by kernel_rfl
def xorTo (s t : ByteArray) (k : Nat) : List UInt8 := (List.zipWith (fun a b => a ^^^ b) (lst s) (lst t)).take k ++ (lst s).drop k
theorem xorTo_zero (s t : ByteArray) : xorTo s t 0 = lst s := by unfold xorTo; simp
theorem xorTo_len {s t : ByteArray} (h : s.size = t.size) (k : Nat) (hk : k ≤ s.size) : (xorTo s t k).length = s.size := by
 unfold xorTo; rw [List.length_append, List.length_take, List.length_zipWith, List.length_drop, length_lst, length_lst]; omega
theorem xorTo_end {s t : ByteArray} (h : s.size = t.size) : bs (xorTo s t s.size) = xorS s t := by
 unfold xorTo xorS
 rw [List.take_of_length_le (by rw [List.length_zipWith, length_lst, length_lst]; omega), List.drop_of_length_le (by rw [length_lst]; exact Nat.le_refl _), List.append_nil]
theorem xorTo_at {s t : ByteArray} (h : s.size = t.size) (k : Nat) (hk : k < s.size) : (xorTo s t k).getD k 0 = s[k] := by
 unfold xorTo
 have hl : ((List.zipWith (fun a b => a ^^^ b) (lst s) (lst t)).take k).length = k := by rw [List.length_take, List.length_zipWith, length_lst, length_lst]; omega
 rw [List.getD_eq_getElem?_getD, List.getElem?_append_right (by omega), hl, Nat.sub_self, List.getElem?_drop, Nat.add_zero, List.getElem?_eq_getElem (by rw [length_lst]; exact hk)]
 rfl
theorem xorTo_succ {s t : ByteArray} (h : s.size = t.size) (k : Nat) (hk : k < s.size) : (xorTo s t k).set k (s[k] ^^^ t[k]'(by omega)) = xorTo s t (k + 1) := by
 unfold xorTo
 have hl : ((List.zipWith (fun a b => a ^^^ b) (lst s) (lst t)).take k).length = k := by rw [List.length_take, List.length_zipWith, length_lst, length_lst]; omega
 have hz : k < (List.zipWith (fun a b => a ^^^ b) (lst s) (lst t)).length := by rw [List.length_zipWith, length_lst, length_lst]; omega
 rw [List.set_append_right _ _ (by omega), hl, Nat.sub_self, List.drop_eq_getElem_cons (by rw [length_lst]; exact hk), List.set_cons_zero, List.take_succ_eq_append_getElem hz, List.getElem_zipWith, List.append_assoc]
 rfl
theorem xor_byte (a b : UInt8) : bits .xor .u8 (a.toNat : Int) (b.toNat : Int) = ((a ^^^ b).toNat : Int) := by
 rw [u8_xor_nat _ _ (UInt8.toNat_lt _) (UInt8.toNat_lt _)]
 simp
theorem xor_any (s t : ByteArray) (w : World) (h : s.size = t.size) (hs : s.size ≤ 140737488355328) :
  Calls Tryz.prog 93 #[.string s, .string t] w fun e w' => e = .returned (.string (xorS s t)) ∧ Ext w w' := by
 have HE := Lib.hid h
 go_enter Tryz.func93, Tryz.ntmps93
 clear h
 go_wp2_with (refine wpList_tobytes (.tmp 7) 9 47 5 rfl rfl Tryz.underlying9 Tryz.underlying47 Tryz.underlying5 s rfl ?_)
 intro g cap w1 hg ex1 hb1 hcap
 have HB1 := Lib.hid hb1
 have HX1 := Lib.hid ex1
 clear hb1 ex1
 go_wp2_with fail
 go_loopw [11] (fun i wr => ∃ k : Nat, i = .int .i64 k ∧ k ≤ s.size ∧ Ext w wr ∧ Buf 5 wr g (xorTo s t k)) (fun i _ => s.size - (intOf i).toNat)
 case atStart => exact ⟨0, rfl, Nat.zero_le _, HX1.out, by rw [xorTo_zero]; exact HB1.out⟩
 case round =>
  clear HB1 HX1
  obtain ⟨k, rfl, hk, hx, hb⟩ := hrel
  by_cases hlt : k < s.size
  ·have hlt2 : k < t.size := by have := HE.out; omega
   have hki : (k : Int) < (s.size : Int) := by omega
   have hki2 : (k : Int) < (t.size : Int) := by omega
   have hbl : k < (xorTo s t k).length := by rw [xorTo_len HE.out k hk]; exact hlt
   have bp := hb.cell k hbl
   have bz := hb.frozen k hbl
   rw [xorTo_at HE.out k hlt] at bp
   have hxb := xor_byte (s[k]) (t[k])
   have c0 := u8_hi s[k]
   have c1 := u8_hi t[k]
   have hset := hb.set k (((s[k] ^^^ t[k]).toNat : Int)) (u8_lo _) (u8_hi _)
   rw [byte_u8, xorTo_succ HE.out k hlt] at hset
   have HSET := Lib.hid hset
   have HXB := Lib.hid hxb
   clear hb hset hbl hxb
   go_wp2_with fail
   refine wp_region_begin (S := fun W' => W'.cell? ⟨g, k, none⟩ = some (.int .u8 (s[k].toNat : Int))) (n := 9) (by kernel_rfl) rfl (by kernel_rfl) rfl ?_
   have hS0 : (fun W' => W'.cell? ⟨g, k, none⟩ = some (.int .u8 (s[k].toNat : Int))) wr.drew := bp
   refine tkL 0 rfl (fun w' hS => by (try dsimp only at hS); go_simp; rfl) hS0 ?_
   refine tkL 1 rfl (fun w' hS => by (try dsimp only at hS); go_simp; rfl) hS0 ?_
   refine tkL 2 rfl (fun w' hS => by (try dsimp only at hS); go_simp; rfl) hS0 ?_
   try simp only [Act.put, List.setIfInBounds_toArray, List.set_cons_zero, List.set_cons_succ]
   refine tkL 3 rfl (fun w' hS => by (try dsimp only at hS); go_simp; rfl) hS0 ?_
   refine tkL 4 rfl (fun w' hS => by (try dsimp only at hS); go_simp; rfl) hS0 ?_
   refine tkL 5 rfl (fun w' hS => by (try dsimp only at hS); go_simp; rfl) hS0 ?_
   try simp only [Act.put, List.setIfInBounds_toArray, List.set_cons_zero, List.set_cons_succ]
   refine tkL 6 rfl (fun w' hS => by (try dsimp only at hS); go_simp; rfl) hS0 ?_
   refine tkL 7 rfl (fun w' hS => by (try dsimp only at hS); go_simp; rfl) hS0 ?_
   try simp only [Act.put, List.setIfInBounds_toArray, List.set_cons_zero, List.set_cons_succ]
   rw [HXB.out]
   refine tkL 8 rfl (fun w' hS => by (try dsimp only at hS); go_simp; rfl) hS0 ?_
   try simp only [Act.put, List.setIfInBounds_toArray, List.set_cons_zero, List.set_cons_succ]
   refine wpAnyH_endL (by kernel_rfl) (fun K hK => ?_)
   go_wp2_with fail
   go_roundw
   case rel => exact ⟨k + 1, by go_num, by omega, (hx.drew).setCell (by dsimp only; omega) _, HSET.out⟩
   case measure => simp [intOf]; omega
  ·obtain rfl : k = s.size := by omega
   have HLN := Lib.hid (xorTo_len HE.out s.size hk)
   have hfin := xorTo_end HE.out
   have HFN := Lib.hid hfin
   have HBB := Lib.hid hb
   clear hb hfin
   go_wp2_with (refine wpList_frombytes (.tmp 24) 47 9 5 rfl rfl Tryz.underlying47 Tryz.underlying5 Tryz.underlying9 g s.size cap _ HBB.out HLN.out.symm rfl ?_)
   rw [HFN.out]
   go_wp2_with fail
   go_ret
   exact ⟨rfl, hx⟩
def xorL (s t : ByteArray) : List UInt8 := List.zipWith (fun a b => a ^^^ b) (lst s) (lst t)
theorem xorL_len {s t : ByteArray} (h : s.size = t.size) : (xorL s t).length = s.size := by unfold xorL; rw [List.length_zipWith, length_lst, length_lst]; omega
theorem xorL_succ {s t : ByteArray} (h : s.size = t.size) (k : Nat) (hk : k < s.size) : ((xorL s t).take (k + 1)).flatMap encByte = ((xorL s t).take k).flatMap encByte ++ [.int .u8 ((s[k] ^^^ t[k]'(by omega)).toNat : Int)] := by
 have hz : k < (xorL s t).length := by rw [xorL_len h]; exact hk
 rw [List.take_succ_eq_append_getElem hz, List.flatMap_append]
 congr 1
 have hg : (xorL s t)[k] = s[k] ^^^ t[k]'(by omega) := by
  have := List.getElem_zipWith (f := fun a b : UInt8 => a ^^^ b) (l := lst s) (l' := lst t) (i := k) (h := hz)
  exact this
 rw [hg]
 rfl
theorem others_any (s t : ByteArray) (w : World) (h : s.size = t.size) (h0 : 0 < s.size) (hs : s.size ≤ 1000000000) :
  Calls Tryz.prog 89 #[.string s, .string t] w fun e w' => e = .returned (.string (xorS s t)) ∧ Ext w w' := by
 have HE := Lib.hid h
 have H0 := Lib.hid h0
 obtain ⟨i0, hi, hz0, hz1, hz2⟩ := info_parts info_byte
 have HI := Lib.hid (And.intro hi (And.intro hz0 (And.intro hz1 hz2)))
 clear hi hz0 hz1 hz2
 go_enter Tryz.func89, Tryz.ntmps89
 clear h h0
 go_wp2_with fail
 go_loopw [5, 6] (fun b i wr => ∃ (k : Nat) (A : Option Addr) (c : Nat), b = .slice A k c ∧ i = .int .i64 k ∧ k ≤ s.size ∧ Ext w wr ∧ wr.ownsRow w.heap.size 5 1 (.slice A k c) k (((xorL s t).take k).flatMap encByte)) (fun _ i _ => s.size - (intOf i).toNat)
 case atStart => exact ⟨0, none, 0, rfl, rfl, Nat.zero_le _, Ext.refl _, World.ownsRow_nil _ _ _ _⟩
 case round =>
  obtain ⟨k, A, c, rfl, rfl, hk, hx, ho⟩ := hrel
  by_cases hlt : k < s.size
  ·have hlt2 : k < t.size := by have := HE.out; omega
   have hki : (k : Int) < (s.size : Int) := by omega
   have hki2 : (k : Int) < (t.size : Int) := by omega
   have HXB := Lib.hid (xor_byte (s[k]) (t[k]))
   have HSC := Lib.hid (xorL_succ HE.out k hlt)
   have c0 := u8_hi s[k]
   have c1 := u8_hi t[k]
   have HO := Lib.hid ho
   clear ho
   go_wp2_with fail
   refine wp_region_begin (S := fun _ => True) (n := 10) (by kernel_rfl) rfl (by kernel_rfl) rfl ?_
   refine tkL 0 rfl (fun w' hS => by go_simp; rfl) trivial ?_
   refine tkL 1 rfl (fun w' hS => by go_simp; rfl) trivial ?_
   refine tkL 2 rfl (fun w' hS => by go_simp; rfl) trivial ?_
   try simp only [Act.put, List.setIfInBounds_toArray, List.set_cons_zero, List.set_cons_succ]
   refine tkL 3 rfl (fun w' hS => by go_simp; rfl) trivial ?_
   refine tkL 4 rfl (fun w' hS => by go_simp; rfl) trivial ?_
   refine tkL 5 rfl (fun w' hS => by go_simp; rfl) trivial ?_
   try simp only [Act.put, List.setIfInBounds_toArray, List.set_cons_zero, List.set_cons_succ]
   refine tkL 6 rfl (fun w' hS => by go_simp; rfl) trivial ?_
   refine tkL 7 rfl (fun w' hS => by go_simp; rfl) trivial ?_
   try simp only [Act.put, List.setIfInBounds_toArray, List.set_cons_zero, List.set_cons_succ]
   rw [HXB.out]
   generalize ((s[k] ^^^ t[k]).toNat : Int) = x at *
   refine wpAnyH_oneL (i := 8) rfl (by kernel_rfl) rfl (fun K hK => ?_)
   go_wp2_with fail
   refine hK _ _ trivial ?_
   clear hK K
   try simp only [Act.put, List.setIfInBounds_toArray, List.set_cons_zero, List.set_cons_succ]
   refine anyH_abs (fun W => Ext wr W ∧ Blk_ W wr.heap.size 5 #[.int .u8 x]) ⟨by first | exact (Ext.refl _).alloc _ | exact (Ext.refl _).drew.alloc _, by first | exact Blk_.new _ _ _ | exact (Blk_.new _ _ _).drew⟩ ?_
   rintro W3 ⟨e3, b3⟩
   refine wpAnyH_oneL (i := 9) rfl (by kernel_rfl) rfl (fun K hK => ?_)
   refine wp_append_at _ (.tmp 13) (.tmp 21) 47 rfl w.heap.size 5 i0 (.int .u8 0) 1 1 Tryz.underlying47 HI.out.1 HI.out.2.1 HI.out.2.2.1 HI.out.2.2.2 rfl (by decide) _ k _ rfl (own_ext HO.out e3) ⟨wr.heap.size, 0, none⟩ 1 1 [.int .u8 x] rfl rfl ?_ ?_ ?_ ?_ ?_ ?_
   ·intro j u hu
    rw [Addr.add_lit, Nat.zero_add, b3.cell]
    simpa using hu
   ·intro u hu
    obtain rfl := List.mem_singleton.1 hu
    rfl
   ·unfold maxLen; omega
   ·omega
   ·have := hx.size; have := e3.size; omega
   intro A' c' w4 own4 hg4 hb4
   rw [← HSC.out] at own4
   have HX4 := Lib.hid ((hx.trans e3).grown hg4 (fun g hgg => (HO.out.lt g hgg).1))
   have HO4 := Lib.hid own4
   refine hK _ _ trivial ?_
   clear hK K own4 hg4 hb4 hx e3 b3
   try simp only [Act.put, List.setIfInBounds_toArray, List.set_cons_zero, List.set_cons_succ]
   refine wpAnyH_endL (by kernel_rfl) (fun K hK => ?_)
   go_wp2_with fail
   go_roundw
   case rel => exact ⟨k + 1, A', c', rfl, by go_num, by omega, HX4.out, HO4.out⟩
   case measure => simp [intOf]; omega
  ·obtain rfl : k = s.size := by omega
   have hfull : (xorL s t).take s.size = xorL s t := List.take_of_length_le (by rw [xorL_len HE.out]; exact Nat.le_refl _)
   rw [hfull] at ho
   obtain ⟨g, rfl, hg1, hb, hln⟩ := own_buf ho H0.out
   have HLN := Lib.hid hln
   have HBB := Lib.hid hb
   have HFN := Lib.hid (show bs (xorL s t) = xorS s t from rfl)
   clear hb ho hfull hln
   go_wp2_with (refine wpList_frombytes (.tmp 23) 47 9 5 rfl rfl Tryz.underlying47 Tryz.underlying5 Tryz.underlying9 g s.size c _ HBB.out HLN.out rfl ?_)
   rw [HFN.out]
   go_wp2_with fail
   go_ret
   exact ⟨rfl, hx⟩
end Go.Proofs.YtjadmfdlggnlgaaGreatDoor
