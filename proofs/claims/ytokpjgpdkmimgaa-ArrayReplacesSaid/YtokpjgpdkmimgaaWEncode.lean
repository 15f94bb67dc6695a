/-
  sector.Encode and the document's SectorBytes: the bytes of a sector, or why there are none; the law SectorEncodes. Conditions: the text is no longer than a text may be.
-/
import Derived.Test.YtokpjgpdkmimgaaSRepeat
import Derived.Test.YtokpjgpdkmimgaaPArr
import Derived.Test.YtokpjgpdkmimgaaR2
namespace Go.Proofs.Ytokpjgpdkmimgaa
set_option linter.unusedSimpArgs false
set_option linter.unusedVariables false
open Go.RowKit

theorem repeat_one (c : UInt8) (n : Nat) : Lib.repeatL [c] n = List.replicate n c := by
  induction n with
  | zero => rfl
  | succ n ih => unfold Lib.repeatL; rw [ih]; rfl
theorem repeat_any (n : Int) (w : World) (h0 : 0 ≤ n) (hn : n ≤ 140737488355328) :
    Calls Try.prog 20 #[.string ⟨#[0]⟩, .int .i64 n] w fun e w' => e = .returned (.string (bs (List.replicate n.toNat 0))) ∧ Ext w w' := by
  obtain ⟨n, rfl⟩ := Int.eq_ofNat_of_zero_le h0
  refine (Try.strings_Repeat ⟨#[0]⟩ n w (by omega) (by show 1 * n ≤ _; omega)).mono ?_
  rintro e w' ⟨rfl, h⟩
  refine ⟨?_, h⟩
  have : Lib.repeatL ([0] : List UInt8) n = List.replicate n 0 := repeat_one 0 n
  exact ret_str (by show (⟨(Lib.repeatL ([0] : List UInt8) n).toArray⟩ : ByteArray) = _; rw [this]; rfl)

set_option maxRecDepth 100000 in
set_option maxHeartbeats 400000 in
theorem noughts_any (n : Int) (w : World) (h0 : 0 ≤ n) (hn : n ≤ 140737488355328) :
    Calls Try.prog 82 #[.int .i64 n] w fun e w' => e = .returned (.string (bs (List.replicate n.toNat 0))) ∧ Ext w w' := by
  obtain ⟨n, rfl⟩ := Int.eq_ofNat_of_zero_le h0
  go_enter Try.func82, Try.ntmps82
  go_wp2
  go_loop [0, 3] (fun i s => ∃ k : Nat, k ≤ n ∧ i = .int .i64 ((n - k : Nat) : Int) ∧ s = .string (bs (List.replicate k 0))) (fun i _ => (intOf i).toNat)
  case atStart => exact ⟨0, Nat.zero_le _, by simp, rfl⟩
  case round =>
    obtain ⟨k, hk, rfl, rfl⟩ := hrel
    by_cases hlt : k < n
    · have h1 : (0 : Int) < ((n - k : Nat) : Int) := by omega
      have h2 : ((n - k : Nat) : Int) ≤ 140737488355328 := by omega
      go_wp2
      go_round
      case rel => exact ⟨k + 1, by omega, by go_num, by congr 1; show bs (List.replicate k 0) ++ bs [0] = _; rw [bs_append]; simp [List.replicate_succ']⟩
      case measure => simp [intOf]; omega
    · obtain rfl : k = n := by omega
      go_wp2
      go_ret
      exact ⟨rfl, Ext.refl _⟩
theorem byte_wrap (n : Int) : byte (IntKind.u8.wrap n) = byte (n % 256) := by
  unfold byte
  simp only [IntKind.wrap, IntKind.bits, IntKind.signed]
  first | rfl | (congr 1; omega) | skip
theorem rawS_join (no : Int) (s : ByteArray) : bs [byte (no / 256), byte (no % 256)] ++ s ++ bs (List.replicate (24 - s.size) 0) = bs (rawS no s) := by
  rw [lst_append_bs, bs_append]; unfold rawS; simp
theorem rawS_small {no : Int} {s : ByteArray} (h2 : s.size ≤ 24) : (bs (rawS no s)).size ≤ 140737488355328 := by
  rw [size_bs, rawS_length h2]; decide
set_option maxRecDepth 100000 in
set_option maxHeartbeats 400000 in
theorem encode_ok (no : Int) (s : ByteArray) (w : World) (h0 : 0 ≤ no) (h1 : no ≤ 65535) (h2 : s.size ≤ 24) :
    Calls Try.prog 53 #[.int .i64 no, .string s] w fun e w' => e = .returned (.tuple #[.string (bs (rawS no s ++ sealOf (rawS no s))), .int .i64 0]) ∧ Ext w w' := by
  have hq : (0 : Int) ≤ no / 256 := by omega
  have hq2 : no / 256 ≤ 255 := by omega
  have hc1 : ¬ (9223372036854775807 < 2 + s.size) := by omega
  have hc2 : ¬ (9223372036854775807 < 2 + s.size + (24 - s.size)) := by omega
  have HS := Lib.hid (rawS_small (no := no) h2)
  go_enter Try.func53, Try.ntmps53
  go_wp2_with fail
  refine wp_region_begin (S := fun _ => True) (n := 14) (by kernel_rfl) rfl (by kernel_rfl) rfl ?_
  refine wpAnyH_takeL (i := 0) (v := ?_) rfl (by kernel_rfl) (fun _ _ _ h => h) rfl ?_ trivial ?_
  rotate_left
  · intro w' hS
    try dsimp only at hS
    go_simp
    rfl
  try simp only [Act.put, List.setIfInBounds_toArray, List.set_cons_zero, List.set_cons_succ]
  refine wpAnyH_takeL (i := 1) (v := ?_) rfl (by kernel_rfl) (fun _ _ _ h => h) rfl ?_ trivial ?_
  rotate_left
  · intro w' hS
    try dsimp only at hS
    go_simp
    rfl
  try simp only [Act.put, List.setIfInBounds_toArray, List.set_cons_zero, List.set_cons_succ]
  refine wpAnyH_takeL (i := 2) (v := ?_) rfl (by kernel_rfl) (fun _ _ _ h => h) rfl ?_ trivial ?_
  rotate_left
  · intro w' hS
    try dsimp only at hS
    go_simp
    rfl
  try simp only [Act.put, List.setIfInBounds_toArray, List.set_cons_zero, List.set_cons_succ]
  refine wpAnyH_takeL (i := 3) (v := ?_) rfl (by kernel_rfl) (fun _ _ _ h => h) rfl ?_ trivial ?_
  rotate_left
  · intro w' hS
    try dsimp only at hS
    go_simp
    rfl
  try simp only [Act.put, List.setIfInBounds_toArray, List.set_cons_zero, List.set_cons_succ]
  refine wpAnyH_takeL (i := 4) (v := ?_) rfl (by kernel_rfl) (fun _ _ _ h => h) rfl ?_ trivial ?_
  rotate_left
  · intro w' hS
    try dsimp only at hS
    go_simp
    rfl
  try simp only [Act.put, List.setIfInBounds_toArray, List.set_cons_zero, List.set_cons_succ]
  refine wpAnyH_takeL (i := 7) (v := ?_) rfl (by kernel_rfl) (fun _ _ _ h => h) rfl ?_ trivial ?_
  rotate_left
  · intro w' hS
    try dsimp only at hS
    go_simp
    rfl
  try simp only [Act.put, List.setIfInBounds_toArray, List.set_cons_zero, List.set_cons_succ]
  refine wpAnyH_takeL (i := 9) (v := ?_) rfl (by kernel_rfl) (fun _ _ _ h => h) rfl ?_ trivial ?_
  rotate_left
  · intro w' hS
    try dsimp only at hS
    go_simp
    rfl
  try simp only [Act.put, List.setIfInBounds_toArray, List.set_cons_zero, List.set_cons_succ]
  refine wpAnyH_takeL (i := 10) (v := ?_) rfl (by kernel_rfl) (fun _ _ _ h => h) rfl ?_ trivial ?_
  rotate_left
  · intro w' hS
    try dsimp only at hS
    go_simp
    rfl
  try simp only [Act.put, List.setIfInBounds_toArray, List.set_cons_zero, List.set_cons_succ]
  refine wpAnyH_takeL (i := 11) (v := ?_) rfl (by kernel_rfl) (fun _ _ _ h => h) rfl ?_ trivial ?_
  rotate_left
  · intro w' hS
    try dsimp only at hS
    go_simp
    rfl
  try simp only [Act.put, List.setIfInBounds_toArray, List.set_cons_zero, List.set_cons_succ]
  refine wpAnyH_twoL (i := 5) (j := 12) rfl rfl (by kernel_rfl) rfl rfl (fun K hK => ?_) (fun K hK => ?_)
  · go_wp2_with fail
    refine hK _ _ trivial ?_
    clear hK K
    try simp only [Act.put, List.setIfInBounds_toArray, List.set_cons_zero, List.set_cons_succ]
    refine anyH_abs (fun W => Ext w W ∧ Blk_ W w.heap.size 5 #[.int .u8 (no / 256), .int .u8 (no % 256)]) ⟨(Ext.refl w).drew.alloc _, by first | exact Blk_.new _ _ _ | exact (Blk_.new _ _ _).drew⟩ ?_
    rintro W5 ⟨eW5, bW5⟩
    refine wpAnyH_twoL (i := 6) (j := 12) rfl rfl (by kernel_rfl) rfl rfl (fun K hK => ?_) (fun K hK => ?_)
    · refine wp_conv2 (.tmp 21) 22 9 5 rfl Try.underlying22 Try.underlying5 Try.underlying9 w.heap.size _ _ rfl bW5 ?_
      refine hK _ _ trivial ?_
      clear hK K
      try simp only [Act.put, List.setIfInBounds_toArray, List.set_cons_zero, List.set_cons_succ]
      refine wpAnyH_takeL (i := 8) (v := ?_) rfl (by kernel_rfl) (fun _ _ _ h => h) rfl ?_ trivial ?_
      rotate_left
      · intro w' hS
        try dsimp only at hS
        go_simp
        rfl
      try simp only [Act.put, List.setIfInBounds_toArray, List.set_cons_zero, List.set_cons_succ]
      refine wpAnyH_oneL (i := 12) rfl (by kernel_rfl) rfl (fun K hK => ?_)
      go_wp2_with fail
      refine (repeat_any _ _ (by omega) (by omega)).mono ?_
      rintro e W6 ⟨rfl, hW6⟩
      have eW6 := eW5.trans hW6
      refine hK _ _ trivial ?_
      clear hK K
      try simp only [Act.put, List.setIfInBounds_toArray, List.set_cons_zero, List.set_cons_succ]
      refine wpAnyH_takeL (i := 13) (v := ?_) rfl (by kernel_rfl) (fun _ _ _ h => h) rfl ?_ trivial ?_
      rotate_left
      · intro w' hS
        try dsimp only at hS
        go_simp
        rfl
      try simp only [Act.put, List.setIfInBounds_toArray, List.set_cons_zero, List.set_cons_succ]
      refine wpAnyH_endL (by kernel_rfl) (fun K hK => ?_)
      rw [rawS_join no s]
      have hsz := HS.out
      have hbl : (bs (rawS no s)).size = 26 := by rw [size_bs, rawS_length h2]
      generalize hbe : bs (rawS no s) = b at *
      have HE := Lib.hid hbe
      clear hbe
      have hc3 : ¬ (9223372036854775807 < b.size + 4) := by omega
      have hc4 : ¬ (9223372036854775807 < b.size + (sealOf (lst b)).length) := by rw [length_sealOf]; omega
      go_wp2_with fail
      refine (sumOf_any b _ hsz).mono ?_
      rintro e w9 ⟨rfl, h9⟩
      go_wp2_with fail
      go_ret2
      refine ⟨?_, eW6.trans h9⟩
      rw [← HE.out, lst_bs, bs_append]
      rfl
    · go_wp2_with fail
      refine (repeat_any _ _ (by omega) (by omega)).mono ?_
      rintro e W6 ⟨rfl, hW6⟩
      have eW6 := eW5.trans hW6
      refine hK _ _ trivial ?_
      clear hK K
      try simp only [Act.put, List.setIfInBounds_toArray, List.set_cons_zero, List.set_cons_succ]
      refine wpAnyH_oneL (i := 6) rfl (by kernel_rfl) rfl (fun K hK => ?_)
      have bW6 := bW5.ext hW6
      refine wp_conv2 (.tmp 21) 22 9 5 rfl Try.underlying22 Try.underlying5 Try.underlying9 w.heap.size _ _ rfl bW6 ?_
      refine hK _ _ trivial ?_
      clear hK K
      try simp only [Act.put, List.setIfInBounds_toArray, List.set_cons_zero, List.set_cons_succ]
      refine wpAnyH_takeL (i := 8) (v := ?_) rfl (by kernel_rfl) (fun _ _ _ h => h) rfl ?_ trivial ?_
      rotate_left
      · intro w' hS
        try dsimp only at hS
        go_simp
        rfl
      try simp only [Act.put, List.setIfInBounds_toArray, List.set_cons_zero, List.set_cons_succ]
      refine wpAnyH_takeL (i := 13) (v := ?_) rfl (by kernel_rfl) (fun _ _ _ h => h) rfl ?_ trivial ?_
      rotate_left
      · intro w' hS
        try dsimp only at hS
        go_simp
        rfl
      try simp only [Act.put, List.setIfInBounds_toArray, List.set_cons_zero, List.set_cons_succ]
      refine wpAnyH_endL (by kernel_rfl) (fun K hK => ?_)
      rw [rawS_join no s]
      have hsz := HS.out
      have hbl : (bs (rawS no s)).size = 26 := by rw [size_bs, rawS_length h2]
      generalize hbe : bs (rawS no s) = b at *
      have HE := Lib.hid hbe
      clear hbe
      have hc3 : ¬ (9223372036854775807 < b.size + 4) := by omega
      have hc4 : ¬ (9223372036854775807 < b.size + (sealOf (lst b)).length) := by rw [length_sealOf]; omega
      go_wp2_with fail
      refine (sumOf_any b _ hsz).mono ?_
      rintro e w9 ⟨rfl, h9⟩
      go_wp2_with fail
      go_ret2
      refine ⟨?_, eW6.trans h9⟩
      rw [← HE.out, lst_bs, bs_append]
      rfl
  · go_wp2_with fail
    refine (repeat_any _ _ (by omega) (by omega)).mono ?_
    rintro e W5 ⟨rfl, hW5⟩
    have eW5 := (Ext.refl w).drew.trans hW5
    refine hK _ _ trivial ?_
    clear hK K
    try simp only [Act.put, List.setIfInBounds_toArray, List.set_cons_zero, List.set_cons_succ]
    refine wpAnyH_oneL (i := 5) rfl (by kernel_rfl) rfl (fun K hK => ?_)
    go_wp2_with fail
    refine hK _ _ trivial ?_
    clear hK K
    try simp only [Act.put, List.setIfInBounds_toArray, List.set_cons_zero, List.set_cons_succ]
    refine anyH_abs (fun W => Ext w W ∧ Blk_ W W5.heap.size 5 #[.int .u8 (no / 256), .int .u8 (no % 256)]) ⟨eW5.alloc _, by first | exact Blk_.new _ _ _ | exact (Blk_.new _ _ _).drew⟩ ?_
    rintro W6 ⟨eW6, bW6⟩
    refine wpAnyH_oneL (i := 6) rfl (by kernel_rfl) rfl (fun K hK => ?_)
    refine wp_conv2 (.tmp 21) 22 9 5 rfl Try.underlying22 Try.underlying5 Try.underlying9 W5.heap.size _ _ rfl bW6 ?_
    refine hK _ _ trivial ?_
    clear hK K
    try simp only [Act.put, List.setIfInBounds_toArray, List.set_cons_zero, List.set_cons_succ]
    refine wpAnyH_takeL (i := 8) (v := ?_) rfl (by kernel_rfl) (fun _ _ _ h => h) rfl ?_ trivial ?_
    rotate_left
    · intro w' hS
      try dsimp only at hS
      go_simp
      rfl
    try simp only [Act.put, List.setIfInBounds_toArray, List.set_cons_zero, List.set_cons_succ]
    refine wpAnyH_takeL (i := 13) (v := ?_) rfl (by kernel_rfl) (fun _ _ _ h => h) rfl ?_ trivial ?_
    rotate_left
    · intro w' hS
      try dsimp only at hS
      go_simp
      rfl
    try simp only [Act.put, List.setIfInBounds_toArray, List.set_cons_zero, List.set_cons_succ]
    refine wpAnyH_endL (by kernel_rfl) (fun K hK => ?_)
    rw [rawS_join no s]
    have hsz := HS.out
    have hbl : (bs (rawS no s)).size = 26 := by rw [size_bs, rawS_length h2]
    generalize hbe : bs (rawS no s) = b at *
    have HE := Lib.hid hbe
    clear hbe
    have hc3 : ¬ (9223372036854775807 < b.size + 4) := by omega
    have hc4 : ¬ (9223372036854775807 < b.size + (sealOf (lst b)).length) := by rw [length_sealOf]; omega
    go_wp2_with fail
    refine (sumOf_any b _ hsz).mono ?_
    rintro e w9 ⟨rfl, h9⟩
    go_wp2_with fail
    go_ret2
    refine ⟨?_, eW6.trans h9⟩
    rw [← HE.out, lst_bs, bs_append]
    rfl

set_option maxRecDepth 100000 in
set_option maxHeartbeats 400000 in
theorem bytes_ok (no : Int) (s : ByteArray) (w : World) (h0 : 0 ≤ no) (h1 : no ≤ 65535) (h2 : s.size ≤ 24) :
    Calls Try.prog 79 #[.int .i64 no, .string s] w fun e w' => e = .returned (.tuple #[.string (bs (rawS no s ++ sealOf (rawS no s))), .int .i64 0]) ∧ Ext w w' := by
  have hq : (0 : Int) ≤ no / 256 := by omega
  have hq2 : no / 256 ≤ 255 := by omega
  have hc1 : ¬ (9223372036854775807 < 2 + s.size) := by omega
  have hc2 : ¬ (9223372036854775807 < 2 + s.size + (24 - s.size)) := by omega
  have HS := Lib.hid (rawS_small (no := no) h2)
  go_enter Try.func79, Try.ntmps79
  go_wp2_with (go_at_call 50; refine (in_true _ _ _ _ h0 h1).mono ?_; rintro e w1 ⟨rfl, rfl⟩)
  refine wp_region_begin (S := fun _ => True) (n := 15) (by kernel_rfl) rfl (by kernel_rfl) rfl ?_
  refine wpAnyH_takeL (i := 0) (v := ?_) rfl (by kernel_rfl) (fun _ _ _ h => h) rfl ?_ trivial ?_
  rotate_left
  · intro w' hS
    try dsimp only at hS
    go_simp
    rfl
  try simp only [Act.put, List.setIfInBounds_toArray, List.set_cons_zero, List.set_cons_succ]
  refine wpAnyH_takeL (i := 1) (v := ?_) rfl (by kernel_rfl) (fun _ _ _ h => h) rfl ?_ trivial ?_
  rotate_left
  · intro w' hS
    try dsimp only at hS
    go_simp
    rfl
  try simp only [Act.put, List.setIfInBounds_toArray, List.set_cons_zero, List.set_cons_succ]
  refine wpAnyH_takeL (i := 2) (v := ?_) rfl (by kernel_rfl) (fun _ _ _ h => h) rfl ?_ trivial ?_
  rotate_left
  · intro w' hS
    try dsimp only at hS
    go_simp
    rfl
  try simp only [Act.put, List.setIfInBounds_toArray, List.set_cons_zero, List.set_cons_succ]
  refine wpAnyH_takeL (i := 3) (v := ?_) rfl (by kernel_rfl) (fun _ _ _ h => h) rfl ?_ trivial ?_
  rotate_left
  · intro w' hS
    try dsimp only at hS
    go_simp
    rfl
  try simp only [Act.put, List.setIfInBounds_toArray, List.set_cons_zero, List.set_cons_succ]
  refine wpAnyH_takeL (i := 4) (v := ?_) rfl (by kernel_rfl) (fun _ _ _ h => h) rfl ?_ trivial ?_
  rotate_left
  · intro w' hS
    try dsimp only at hS
    go_simp
    rfl
  try simp only [Act.put, List.setIfInBounds_toArray, List.set_cons_zero, List.set_cons_succ]
  refine wpAnyH_takeL (i := 5) (v := ?_) rfl (by kernel_rfl) (fun _ _ _ h => h) rfl ?_ trivial ?_
  rotate_left
  · intro w' hS
    try dsimp only at hS
    go_simp
    rfl
  try simp only [Act.put, List.setIfInBounds_toArray, List.set_cons_zero, List.set_cons_succ]
  refine wpAnyH_takeL (i := 8) (v := ?_) rfl (by kernel_rfl) (fun _ _ _ h => h) rfl ?_ trivial ?_
  rotate_left
  · intro w' hS
    try dsimp only at hS
    go_simp
    rfl
  try simp only [Act.put, List.setIfInBounds_toArray, List.set_cons_zero, List.set_cons_succ]
  refine wpAnyH_takeL (i := 10) (v := ?_) rfl (by kernel_rfl) (fun _ _ _ h => h) rfl ?_ trivial ?_
  rotate_left
  · intro w' hS
    try dsimp only at hS
    go_simp
    rfl
  try simp only [Act.put, List.setIfInBounds_toArray, List.set_cons_zero, List.set_cons_succ]
  refine wpAnyH_takeL (i := 11) (v := ?_) rfl (by kernel_rfl) (fun _ _ _ h => h) rfl ?_ trivial ?_
  rotate_left
  · intro w' hS
    try dsimp only at hS
    go_simp
    rfl
  try simp only [Act.put, List.setIfInBounds_toArray, List.set_cons_zero, List.set_cons_succ]
  refine wpAnyH_takeL (i := 12) (v := ?_) rfl (by kernel_rfl) (fun _ _ _ h => h) rfl ?_ trivial ?_
  rotate_left
  · intro w' hS
    try dsimp only at hS
    go_simp
    rfl
  try simp only [Act.put, List.setIfInBounds_toArray, List.set_cons_zero, List.set_cons_succ]
  refine wpAnyH_twoL (i := 6) (j := 13) rfl rfl (by kernel_rfl) rfl rfl (fun K hK => ?_) (fun K hK => ?_)
  · go_wp2_with fail
    refine hK _ _ trivial ?_
    clear hK K
    try simp only [Act.put, List.setIfInBounds_toArray, List.set_cons_zero, List.set_cons_succ]
    refine anyH_abs (fun W => Ext w W ∧ Blk_ W w.heap.size 5 #[.int .u8 (no / 256), .int .u8 (no % 256)]) ⟨(Ext.refl w).drew.alloc _, by first | exact Blk_.new _ _ _ | exact (Blk_.new _ _ _).drew⟩ ?_
    rintro W5 ⟨eW5, bW5⟩
    refine wpAnyH_twoL (i := 7) (j := 13) rfl rfl (by kernel_rfl) rfl rfl (fun K hK => ?_) (fun K hK => ?_)
    · refine wp_conv2 (.tmp 19) 22 9 5 rfl Try.underlying22 Try.underlying5 Try.underlying9 w.heap.size _ _ rfl bW5 ?_
      refine hK _ _ trivial ?_
      clear hK K
      try simp only [Act.put, List.setIfInBounds_toArray, List.set_cons_zero, List.set_cons_succ]
      refine wpAnyH_takeL (i := 9) (v := ?_) rfl (by kernel_rfl) (fun _ _ _ h => h) rfl ?_ trivial ?_
      rotate_left
      · intro w' hS
        try dsimp only at hS
        go_simp
        rfl
      try simp only [Act.put, List.setIfInBounds_toArray, List.set_cons_zero, List.set_cons_succ]
      refine wpAnyH_oneL (i := 13) rfl (by kernel_rfl) rfl (fun K hK => ?_)
      go_wp2_with fail
      refine (noughts_any _ _ (by omega) (by omega)).mono ?_
      rintro e W6 ⟨rfl, hW6⟩
      have eW6 := eW5.trans hW6
      refine hK _ _ trivial ?_
      clear hK K
      try simp only [Act.put, List.setIfInBounds_toArray, List.set_cons_zero, List.set_cons_succ]
      refine wpAnyH_takeL (i := 14) (v := ?_) rfl (by kernel_rfl) (fun _ _ _ h => h) rfl ?_ trivial ?_
      rotate_left
      · intro w' hS
        try dsimp only at hS
        go_simp
        rfl
      try simp only [Act.put, List.setIfInBounds_toArray, List.set_cons_zero, List.set_cons_succ]
      refine wpAnyH_endL (by kernel_rfl) (fun K hK => ?_)
      rw [rawS_join no s]
      have hsz := HS.out
      have hbl : (bs (rawS no s)).size = 26 := by rw [size_bs, rawS_length h2]
      generalize hbe : bs (rawS no s) = b at *
      have HE := Lib.hid hbe
      clear hbe
      have hc3 : ¬ (9223372036854775807 < b.size + 4) := by omega
      have hc4 : ¬ (9223372036854775807 < b.size + (sealOf (lst b)).length) := by rw [length_sealOf]; omega
      go_wp2_with fail
      refine (sealOf_any b _ hsz).mono ?_
      rintro e w9 ⟨rfl, h9⟩
      go_wp2_with fail
      go_ret2
      refine ⟨?_, eW6.trans h9⟩
      rw [← HE.out, lst_bs, bs_append]
      rfl
    · go_wp2_with fail
      refine (noughts_any _ _ (by omega) (by omega)).mono ?_
      rintro e W6 ⟨rfl, hW6⟩
      have eW6 := eW5.trans hW6
      refine hK _ _ trivial ?_
      clear hK K
      try simp only [Act.put, List.setIfInBounds_toArray, List.set_cons_zero, List.set_cons_succ]
      refine wpAnyH_oneL (i := 7) rfl (by kernel_rfl) rfl (fun K hK => ?_)
      have bW6 := bW5.ext hW6
      refine wp_conv2 (.tmp 19) 22 9 5 rfl Try.underlying22 Try.underlying5 Try.underlying9 w.heap.size _ _ rfl bW6 ?_
      refine hK _ _ trivial ?_
      clear hK K
      try simp only [Act.put, List.setIfInBounds_toArray, List.set_cons_zero, List.set_cons_succ]
      refine wpAnyH_takeL (i := 9) (v := ?_) rfl (by kernel_rfl) (fun _ _ _ h => h) rfl ?_ trivial ?_
      rotate_left
      · intro w' hS
        try dsimp only at hS
        go_simp
        rfl
      try simp only [Act.put, List.setIfInBounds_toArray, List.set_cons_zero, List.set_cons_succ]
      refine wpAnyH_takeL (i := 14) (v := ?_) rfl (by kernel_rfl) (fun _ _ _ h => h) rfl ?_ trivial ?_
      rotate_left
      · intro w' hS
        try dsimp only at hS
        go_simp
        rfl
      try simp only [Act.put, List.setIfInBounds_toArray, List.set_cons_zero, List.set_cons_succ]
      refine wpAnyH_endL (by kernel_rfl) (fun K hK => ?_)
      rw [rawS_join no s]
      have hsz := HS.out
      have hbl : (bs (rawS no s)).size = 26 := by rw [size_bs, rawS_length h2]
      generalize hbe : bs (rawS no s) = b at *
      have HE := Lib.hid hbe
      clear hbe
      have hc3 : ¬ (9223372036854775807 < b.size + 4) := by omega
      have hc4 : ¬ (9223372036854775807 < b.size + (sealOf (lst b)).length) := by rw [length_sealOf]; omega
      go_wp2_with fail
      refine (sealOf_any b _ hsz).mono ?_
      rintro e w9 ⟨rfl, h9⟩
      go_wp2_with fail
      go_ret2
      refine ⟨?_, eW6.trans h9⟩
      rw [← HE.out, lst_bs, bs_append]
      rfl
  · go_wp2_with fail
    refine (noughts_any _ _ (by omega) (by omega)).mono ?_
    rintro e W5 ⟨rfl, hW5⟩
    have eW5 := (Ext.refl w).drew.trans hW5
    refine hK _ _ trivial ?_
    clear hK K
    try simp only [Act.put, List.setIfInBounds_toArray, List.set_cons_zero, List.set_cons_succ]
    refine wpAnyH_oneL (i := 6) rfl (by kernel_rfl) rfl (fun K hK => ?_)
    go_wp2_with fail
    refine hK _ _ trivial ?_
    clear hK K
    try simp only [Act.put, List.setIfInBounds_toArray, List.set_cons_zero, List.set_cons_succ]
    refine anyH_abs (fun W => Ext w W ∧ Blk_ W W5.heap.size 5 #[.int .u8 (no / 256), .int .u8 (no % 256)]) ⟨eW5.alloc _, by first | exact Blk_.new _ _ _ | exact (Blk_.new _ _ _).drew⟩ ?_
    rintro W6 ⟨eW6, bW6⟩
    refine wpAnyH_oneL (i := 7) rfl (by kernel_rfl) rfl (fun K hK => ?_)
    refine wp_conv2 (.tmp 19) 22 9 5 rfl Try.underlying22 Try.underlying5 Try.underlying9 W5.heap.size _ _ rfl bW6 ?_
    refine hK _ _ trivial ?_
    clear hK K
    try simp only [Act.put, List.setIfInBounds_toArray, List.set_cons_zero, List.set_cons_succ]
    refine wpAnyH_takeL (i := 9) (v := ?_) rfl (by kernel_rfl) (fun _ _ _ h => h) rfl ?_ trivial ?_
    rotate_left
    · intro w' hS
      try dsimp only at hS
      go_simp
      rfl
    try simp only [Act.put, List.setIfInBounds_toArray, List.set_cons_zero, List.set_cons_succ]
    refine wpAnyH_takeL (i := 14) (v := ?_) rfl (by kernel_rfl) (fun _ _ _ h => h) rfl ?_ trivial ?_
    rotate_left
    · intro w' hS
      try dsimp only at hS
      go_simp
      rfl
    try simp only [Act.put, List.setIfInBounds_toArray, List.set_cons_zero, List.set_cons_succ]
    refine wpAnyH_endL (by kernel_rfl) (fun K hK => ?_)
    rw [rawS_join no s]
    have hsz := HS.out
    have hbl : (bs (rawS no s)).size = 26 := by rw [size_bs, rawS_length h2]
    generalize hbe : bs (rawS no s) = b at *
    have HE := Lib.hid hbe
    clear hbe
    have hc3 : ¬ (9223372036854775807 < b.size + 4) := by omega
    have hc4 : ¬ (9223372036854775807 < b.size + (sealOf (lst b)).length) := by rw [length_sealOf]; omega
    go_wp2_with fail
    refine (sealOf_any b _ hsz).mono ?_
    rintro e w9 ⟨rfl, h9⟩
    go_wp2_with fail
    go_ret2
    refine ⟨?_, eW6.trans h9⟩
    rw [← HE.out, lst_bs, bs_append]
    rfl

theorem encode_bad1 (no : Int) (s : ByteArray) (h : no < 0 ∨ 65535 < no) : encodeS no s = (.empty, 2) := by unfold encodeS; rw [if_pos h]
theorem encode_bad2 (no : Int) (s : ByteArray) (h : ¬ (no < 0 ∨ 65535 < no)) (h2 : 24 < s.size) : encodeS no s = (.empty, 1) := by unfold encodeS; rw [if_neg h, if_pos h2]
set_option maxRecDepth 100000 in
set_option maxHeartbeats 400000 in
theorem encode_any (no : Int) (s : ByteArray) (w : World) (hn : I64 no) (hs : s.size ≤ 140737488355328) :
    Calls Try.prog 53 #[.int .i64 no, .string s] w fun e w' => e = .returned (.tuple #[.string (encodeS no s).1, .int .i64 (encodeS no s).2]) ∧ Ext w w' := by
  by_cases h : no < 0 ∨ 65535 < no
  · rw [encode_bad1 no s h]
    by_cases h1 : no < 0
    · clear h
      go_enter Try.func53, Try.ntmps53
      go_wp2
      go_ret2
      exact ⟨rfl, Ext.refl _⟩
    · have h2 : 65535 < no := by omega
      clear h
      go_enter Try.func53, Try.ntmps53
      go_wp2
      go_ret2
      exact ⟨rfl, Ext.refl _⟩
  · by_cases h2 : 24 < s.size
    · rw [encode_bad2 no s h h2]
      have h3 : 0 ≤ no := by omega
      have h4 : no ≤ 65535 := by omega
      have h5 : (24 : Int) < (s.size : Int) := by omega
      clear h
      go_enter Try.func53, Try.ntmps53
      go_wp2
      go_ret2
      exact ⟨rfl, Ext.refl _⟩
    · rw [encodeS_ok (by omega) (by omega) (by omega)]
      exact encode_ok no s w (by omega) (by omega) (by omega)
set_option maxRecDepth 100000 in
set_option maxHeartbeats 400000 in
theorem sectorBytes_any (no : Int) (s : ByteArray) (w : World) (hn : I64 no) (hs : s.size ≤ 140737488355328) :
    Calls Try.prog 79 #[.int .i64 no, .string s] w fun e w' => e = .returned (.tuple #[.string (encodeS no s).1, .int .i64 (encodeS no s).2]) ∧ Ext w w' := by
  by_cases h : no < 0 ∨ 65535 < no
  · rw [encode_bad1 no s h]
    go_enter Try.func79, Try.ntmps79
    go_wp2_with (go_at_call 50; refine (in_false _ _ _ _ h).mono ?_; rintro e w1 ⟨rfl, rfl⟩)
    go_ret2
    exact ⟨rfl, Ext.refl _⟩
  · by_cases h2 : 24 < s.size
    · rw [encode_bad2 no s h h2]
      have h3 : 0 ≤ no := by omega
      have h4 : no ≤ 65535 := by omega
      have h5 : (24 : Int) < (s.size : Int) := by omega
      clear h
      go_enter Try.func79, Try.ntmps79
      go_wp2_with (go_at_call 50; refine (in_true _ _ _ _ h3 h4).mono ?_; rintro e w1 ⟨rfl, rfl⟩)
      go_ret2
      exact ⟨rfl, Ext.refl _⟩
    · rw [encodeS_ok (by omega) (by omega) (by omega)]
      exact bytes_ok no s w (by omega) (by omega) (by omega)
end Go.Proofs.Ytokpjgpdkmimgaa
