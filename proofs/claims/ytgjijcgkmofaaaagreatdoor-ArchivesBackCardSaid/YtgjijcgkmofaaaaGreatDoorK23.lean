/-
  slices.Contains, Equal, Clone in this seat: the library's contracts, laid (printed by the kit's lay-shelf and lay-plain). Conditions: as they say.
-/
import Derived.Test.YtgjijcgkmofaaaaGreatDoorK22
import Derived.Shelf.Slices.Turned
import Derived.Shelf.Slices.Equal
import Derived.Ground.Names2Prog
import Derived.Shelf.Slices.Clone
namespace Go.Proofs.YtgjijcgkmofaaaaGreatDoor
open Go.Shelf
def Tryz.lays107_ren : Go.Shelf.Ren := ⟨fun | 107 => 141 | 108 => 171 | n => n, fun | 28 => 44 | 3 => 3 | 4 => 4 | 0 => 0 | n => n, fun | n => n⟩
theorem Tryz.lays107 : Go.Proofs.Lays.n107 Tryz.prog Tryz.lays107_ren := {
  mixed := by kernel_rfl
  f107 := Tryz.func141.trans (congrArg some (by kernel_rfl))
  f108 := Tryz.func171.trans (congrArg some (by kernel_rfl))
  t0 := Tryz.underlying0
  a0 := Tryz.isAgg0
  z0 := Tryz.sizeOf0
  v0 := Tryz.zeroValue0
  t3 := Tryz.underlying3
  a3 := Tryz.isAgg3
  z3 := Tryz.sizeOf3
  v3 := Tryz.zeroValue3
  t4 := Tryz.underlying4
  a4 := Tryz.isAgg4
  z4 := Tryz.sizeOf4
  v4 := Tryz.zeroValue4
  t28 := Tryz.underlying44
  a28 := Tryz.isAgg44
  z28 := Tryz.sizeOf44
  v28 := Tryz.zeroValue44 }
def Tryz.lays110_ren : Go.Shelf.Ren := ⟨fun | 110 => 26 | 109 => 60 | n => n, fun | 31 => 43 | 9 => 9 | 4 => 4 | 3 => 3 | 0 => 0 | n => n, fun | n => n⟩
theorem Tryz.lays110 : Go.Proofs.Lays.n110 Tryz.prog Tryz.lays110_ren := {
  mixed := by kernel_rfl
  f109 := Tryz.func60.trans (congrArg some (by kernel_rfl))
  f110 := Tryz.func26.trans (congrArg some (by kernel_rfl))
  t0 := Tryz.underlying0
  a0 := Tryz.isAgg0
  z0 := Tryz.sizeOf0
  v0 := Tryz.zeroValue0
  t3 := Tryz.underlying3
  a3 := Tryz.isAgg3
  z3 := Tryz.sizeOf3
  v3 := Tryz.zeroValue3
  t4 := Tryz.underlying4
  a4 := Tryz.isAgg4
  z4 := Tryz.sizeOf4
  v4 := Tryz.zeroValue4
  t9 := Tryz.underlying9
  a9 := Tryz.isAgg9
  z9 := Tryz.sizeOf9
  v9 := Tryz.zeroValue9
  t31 := Tryz.underlying43
  a31 := Tryz.isAgg43
  z31 := Tryz.sizeOf43
  v31 := Tryz.zeroValue43 }
def Tryz.lays111_ren : Go.Shelf.Ren := ⟨fun | 111 => 39 | n => n, fun | 28 => 44 | 3 => 3 | 4 => 4 | 0 => 0 | n => n, fun | n => n⟩
theorem Tryz.lays111 : Go.Proofs.Lays.n111 Tryz.prog Tryz.lays111_ren := {
  mixed := by kernel_rfl
  f111 := Tryz.func39.trans (congrArg some (by kernel_rfl))
  t0 := Tryz.underlying0
  a0 := Tryz.isAgg0
  z0 := Tryz.sizeOf0
  v0 := Tryz.zeroValue0
  t3 := Tryz.underlying3
  a3 := Tryz.isAgg3
  z3 := Tryz.sizeOf3
  v3 := Tryz.zeroValue3
  t4 := Tryz.underlying4
  a4 := Tryz.isAgg4
  z4 := Tryz.sizeOf4
  v4 := Tryz.zeroValue4
  t28 := Tryz.underlying44
  a28 := Tryz.isAgg44
  z28 := Tryz.sizeOf44
  v28 := Tryz.zeroValue44 }
def Tryz.lays193_ren : Go.Shelf.Ren := ⟨fun | 193 => 32 | n => n, fun | 31 => 43 | 9 => 9 | 4 => 4 | 3 => 3 | 0 => 0 | n => n, fun | n => n⟩
theorem Tryz.lays193 : Go.Proofs.Lays.n193 Tryz.prog Tryz.lays193_ren := {
  mixed := by kernel_rfl
  f193 := Tryz.func32.trans (congrArg some (by kernel_rfl))
  t0 := Tryz.underlying0
  a0 := Tryz.isAgg0
  z0 := Tryz.sizeOf0
  v0 := Tryz.zeroValue0
  t3 := Tryz.underlying3
  a3 := Tryz.isAgg3
  z3 := Tryz.sizeOf3
  v3 := Tryz.zeroValue3
  t4 := Tryz.underlying4
  a4 := Tryz.isAgg4
  z4 := Tryz.sizeOf4
  v4 := Tryz.zeroValue4
  t9 := Tryz.underlying9
  a9 := Tryz.isAgg9
  z9 := Tryz.sizeOf9
  v9 := Tryz.zeroValue9
  t31 := Tryz.underlying43
  a31 := Tryz.isAgg43
  z31 := Tryz.sizeOf43
  v31 := Tryz.zeroValue43 }
def Tryz.laysNm215_ren : Go.Shelf.Ren := ⟨fun | 15 => 40 | n => n, fun | 22 => 44 | 3 => 3 | 4 => 4 | n => n, fun | n => n⟩
theorem Tryz.laysNm215 : Go.Proofs.Lays2.n15 Tryz.prog Tryz.laysNm215_ren := {
  mixed := by kernel_rfl
  f15 := Tryz.func40.trans (congrArg some (by kernel_rfl))
  t3 := Tryz.underlying3
  a3 := Tryz.isAgg3
  z3 := Tryz.sizeOf3
  v3 := Tryz.zeroValue3
  t4 := Tryz.underlying4
  a4 := Tryz.isAgg4
  z4 := Tryz.sizeOf4
  v4 := Tryz.zeroValue4
  t22 := Tryz.underlying44
  a22 := Tryz.isAgg44
  z22 := Tryz.sizeOf44
  v22 := Tryz.zeroValue44
  i3 := by kernel_rfl }
def Tryz.laysNm216_ren : Go.Shelf.Ren := ⟨fun | 16 => 144 | n => n, fun | 24 => 43 | 9 => 9 | 4 => 4 | n => n, fun | n => n⟩
theorem Tryz.laysNm216 : Go.Proofs.Lays2.n16 Tryz.prog Tryz.laysNm216_ren := {
  mixed := by kernel_rfl
  f16 := Tryz.func144.trans (congrArg some (by kernel_rfl))
  t4 := Tryz.underlying4
  a4 := Tryz.isAgg4
  z4 := Tryz.sizeOf4
  v4 := Tryz.zeroValue4
  t9 := Tryz.underlying9
  a9 := Tryz.isAgg9
  z9 := Tryz.sizeOf9
  v9 := Tryz.zeroValue9
  t24 := Tryz.underlying43
  a24 := Tryz.isAgg43
  z24 := Tryz.sizeOf43
  v24 := Tryz.zeroValue43
  i9 := by kernel_rfl }
open Go.Lib in
/-- slices.Contains at []int: "Contains reports whether v is present in s.": IT RETURNS 'elements.contains v'; the world is as it was. ITS CALLEE slices.Index IS MET BY ITS OWN CONTRACT OFF THE SHELF (lay that first): no loop is walked here. (LAID: no walk: one application.) -/
theorem Tryz.slices_Contains_int (b off n c : Nat) (zs : List Int) (x : Int) (w : World) (hz : n ≤ zs.length) (hbig : n ≤ 9223372036854775807) (hc : ∀ j, j < zs.length → w.cell? ⟨b, off + j, none⟩ = some (.int .i64 (zs.getD j 0))) :
    Calls Tryz.prog 141 #[.slice (some ⟨b, off, none⟩) n c, .int .i64 x] w fun e w' => e = .returned (.bool ((zs.take n).contains x)) ∧ w' = w := Any.slices_Contains_int Tryz.lays107 b off n c zs x w hz hbig hc
open Go.Lib in
/-- The same at a slice of length 0, a nil one too. (LAID: no walk: one application.) -/
theorem Tryz.slices_Contains_int_empty (a : Option Addr) (c : Nat) (x : Int) (w : World) :
    Calls Tryz.prog 141 #[.slice a 0 c, .int .i64 x] w fun e w' => e = .returned (.bool false) ∧ w' = w := Any.slices_Contains_int_empty Tryz.lays107 a c x w
open Go.Lib in
/-- slices.Contains at []string: "Contains reports whether v is present in s.": IT RETURNS 'Lib.containsS (the elements) v', which is true just where v is among them ('Lib.containsS_iff'); the world is as it was. ITS CALLEE slices.Index IS MET BY ITS OWN CONTRACT OFF THE SHELF (lay that first): no loop is walked here. (LAID: no walk: one application.) -/
theorem Tryz.slices_Contains_string (b off n c : Nat) (zs : List ByteArray) (x : ByteArray) (w : World) (hz : n ≤ zs.length) (hbig : n ≤ 9223372036854775807) (hc : ∀ j, j < zs.length → w.cell? ⟨b, off + j, none⟩ = some (.string (zs.getD j ByteArray.empty))) :
    Calls Tryz.prog 26 #[.slice (some ⟨b, off, none⟩) n c, .string x] w fun e w' => e = .returned (.bool (Lib.containsS (zs.take n) x)) ∧ w' = w := Any.slices_Contains_string Tryz.lays110 b off n c zs x w hz hbig hc
open Go.Lib in
/-- The same at a slice of length 0, a nil one too. (LAID: no walk: one application.) -/
theorem Tryz.slices_Contains_string_empty (a : Option Addr) (c : Nat) (x : ByteArray) (w : World) :
    Calls Tryz.prog 26 #[.slice a 0 c, .string x] w fun e w' => e = .returned (.bool false) ∧ w' = w := Any.slices_Contains_string_empty Tryz.lays110 a c x w
open Go.RowKit Go.Lib in
/-- slices.Equal at []int: "Equal reports whether two slices are equal: the same length and all elements equal. If the lengths are different, Equal returns false. Otherwise, the elements are compared in increasing index order, and the comparison stops at the first unequal pair. Empty and nil slices are considered equal.": IT RETURNS WHETHER THE TWO LISTS OF ELEMENTS ARE ONE; the world is as it was but for the count of draws (the test 's1[i] != s2[i]' has two reads, whose order the model draws, once a round). 'xs', 'ys': what the cells behind the two addresses hold (the spare capacity too, if you have it); 'xs.take n', 'ys.take m': the elements. THE TWO SLICES MAY OVERLAP. (LAID: no walk: one application.) -/
theorem Tryz.slices_Equal_int (b1 o1 n c b2 o2 m d : Nat) (xs ys : List Int) (w : World) (hx : n ≤ xs.length) (hy : m ≤ ys.length) (hbig : n ≤ 9223372036854775807) (hbig2 : m ≤ 9223372036854775807) (hc1 : ∀ j, j < xs.length → w.cell? ⟨b1, o1 + j, none⟩ = some (.int .i64 (xs.getD j 0))) (hc2 : ∀ j, j < ys.length → w.cell? ⟨b2, o2 + j, none⟩ = some (.int .i64 (ys.getD j 0))) :
    Calls Tryz.prog 39 #[.slice (some ⟨b1, o1, none⟩) n c, .slice (some ⟨b2, o2, none⟩) m d] w fun e w' => e = .returned (.bool (xs.take n == ys.take m)) ∧ ∃ q, w' = w.drewN q := Any.slices_Equal_int Tryz.lays111 b1 o1 n c b2 o2 m d xs ys w hx hy hbig hbig2 hc1 hc2
open Go.RowKit Go.Lib in
/-- The same where the first is of length 0 (a nil one too): no cell is asked for. (LAID: no walk: one application.) -/
theorem Tryz.slices_Equal_int_empty (a1 a2 : Option Addr) (c m d : Nat) (w : World) (hbig2 : m ≤ 9223372036854775807) :
    Calls Tryz.prog 39 #[.slice a1 0 c, .slice a2 m d] w fun e w' => e = .returned (.bool (decide (m = 0))) ∧ w' = w := Any.slices_Equal_int_empty Tryz.lays111 a1 a2 c m d w hbig2
open Go.RowKit Go.Lib in
/-- slices.Equal at []string: "Equal reports whether two slices are equal: the same length and all elements equal. If the lengths are different, Equal returns false. Otherwise, the elements are compared in increasing index order, and the comparison stops at the first unequal pair. Empty and nil slices are considered equal.": IT RETURNS WHETHER THE TWO LISTS OF ELEMENTS ARE ONE; the world is as it was but for the count of draws (the test 's1[i] != s2[i]' has two reads, whose order the model draws, once a round). 'xs', 'ys': what the cells behind the two addresses hold (the spare capacity too, if you have it); 'xs.take n', 'ys.take m': the elements. THE TWO SLICES MAY OVERLAP. (LAID: no walk: one application.) -/
theorem Tryz.slices_Equal_string (b1 o1 n c b2 o2 m d : Nat) (xs ys : List ByteArray) (w : World) (hx : n ≤ xs.length) (hy : m ≤ ys.length) (hbig : n ≤ 9223372036854775807) (hbig2 : m ≤ 9223372036854775807) (hc1 : ∀ j, j < xs.length → w.cell? ⟨b1, o1 + j, none⟩ = some (.string (xs.getD j ByteArray.empty))) (hc2 : ∀ j, j < ys.length → w.cell? ⟨b2, o2 + j, none⟩ = some (.string (ys.getD j ByteArray.empty))) :
    Calls Tryz.prog 32 #[.slice (some ⟨b1, o1, none⟩) n c, .slice (some ⟨b2, o2, none⟩) m d] w fun e w' => e = .returned (.bool (decide (xs.take n = ys.take m))) ∧ ∃ q, w' = w.drewN q := Any.slices_Equal_string Tryz.lays193 b1 o1 n c b2 o2 m d xs ys w hx hy hbig hbig2 hc1 hc2
open Go.RowKit Go.Lib in
/-- The same where the first is of length 0 (a nil one too): no cell is asked for. (LAID: no walk: one application.) -/
theorem Tryz.slices_Equal_string_empty (a1 a2 : Option Addr) (c m d : Nat) (w : World) (hbig2 : m ≤ 9223372036854775807) :
    Calls Tryz.prog 32 #[.slice a1 0 c, .slice a2 m d] w fun e w' => e = .returned (.bool (decide (m = 0))) ∧ w' = w := Any.slices_Equal_string_empty Tryz.lays193 a1 a2 c m d w hbig2
open Go.RowKit Go.Lib in
/-- slices.Clone at []int: "Clone returns a copy of the slice. The elements are copied using assignment, so this is a shallow clone. The result may have additional unused capacity. The result preserves the nilness of s.": OF A SLICE THAT IS NOT nil IT RETURNS A SLICE THAT IS NOT nil, OF THE SAME ELEMENTS, IN MEMORY OF THE CALL's OWN: in the how-to's words (6f): 'w'.ownsRow B e 1 v' n cells': v' begins at the head of a row among the blocks from B on (B: the heap's size at the call), not frozen, whose first cells are the elements · 'Below B w w'': below B all is as it was. The capacity is whatever the run-time gives. 'zs': what the cells behind the slice's address hold; 'zs.take n': its elements. (LAID: no walk: one application.) -/
theorem Tryz.slices_Clone_int (b off n c : Nat) (zs : List Int) (w : World) (hz : n ≤ zs.length) (hbig : n * 8 ≤ 140737488355328) (hc : ∀ j, j < zs.length → w.cell? ⟨b, off + j, none⟩ = some (.int .i64 (zs.getD j 0))) :
    Calls Tryz.prog 40 #[.slice (some ⟨b, off, none⟩) n c] w fun e w' => ∃ v', e = .returned v' ∧ w'.ownsRow w.heap.size 3 1 v' n ((zs.take n).map (Value.int .i64)) ∧ v' ≠ .slice none 0 0 ∧ Below w.heap.size w w' := Any.slices_Clone_int Tryz.laysNm215 b off n c zs w hz hbig hc
open Go.RowKit Go.Lib in
/-- The same at nil: nil comes back; the world is as it was. (LAID: no walk: one application.) -/
theorem Tryz.slices_Clone_int_nil (n c : Nat) (w : World) :
    Calls Tryz.prog 40 #[.slice none n c] w fun e w' => e = .returned (.slice none 0 0) ∧ w' = w := Any.slices_Clone_int_nil Tryz.laysNm215 n c w
open Go.RowKit Go.Lib in
/-- slices.Clone at []string: "Clone returns a copy of the slice. The elements are copied using assignment, so this is a shallow clone. The result may have additional unused capacity. The result preserves the nilness of s.": OF A SLICE THAT IS NOT nil IT RETURNS A SLICE THAT IS NOT nil, OF THE SAME ELEMENTS, IN MEMORY OF THE CALL's OWN: in the how-to's words (6f): 'w'.ownsRow B e 1 v' n cells': v' begins at the head of a row among the blocks from B on (B: the heap's size at the call), not frozen, whose first cells are the elements · 'Below B w w'': below B all is as it was. The capacity is whatever the run-time gives. 'zs': what the cells behind the slice's address hold; 'zs.take n': its elements. (LAID: no walk: one application.) -/
theorem Tryz.slices_Clone_string (b off n c : Nat) (zs : List ByteArray) (w : World) (hz : n ≤ zs.length) (hbig : n * 16 ≤ 140737488355328) (hc : ∀ j, j < zs.length → w.cell? ⟨b, off + j, none⟩ = some (.string (zs.getD j ByteArray.empty))) :
    Calls Tryz.prog 144 #[.slice (some ⟨b, off, none⟩) n c] w fun e w' => ∃ v', e = .returned v' ∧ w'.ownsRow w.heap.size 9 1 v' n ((zs.take n).map (Value.string)) ∧ v' ≠ .slice none 0 0 ∧ Below w.heap.size w w' := Any.slices_Clone_string Tryz.laysNm216 b off n c zs w hz hbig hc
open Go.RowKit Go.Lib in
/-- The same at nil: nil comes back; the world is as it was. (LAID: no walk: one application.) -/
theorem Tryz.slices_Clone_string_nil (n c : Nat) (w : World) :
    Calls Tryz.prog 144 #[.slice none n c] w fun e w' => e = .returned (.slice none 0 0) ∧ w' = w := Any.slices_Clone_string_nil Tryz.laysNm216 n c w
open Go.RowKit Go.Lib in
/-- The same at a slice of length 0 that is not nil, WHATEVER ITS ADDRESS (no cell is asked for): a slice that is not nil and owns nothing comes back. (LAID: no walk: one application.) -/
theorem Tryz.slices_Clone_int_zero (a : Addr) (c : Nat) (w : World) :
    Calls Tryz.prog 40 #[.slice (some a) 0 c] w fun e w' => ∃ v', e = .returned v' ∧ w'.ownsRow w.heap.size 3 1 v' 0 [] ∧ v' ≠ .slice none 0 0 ∧ Below w.heap.size w w' := Any.slices_Clone_int_zero Tryz.laysNm215 a c w
open Go.RowKit Go.Lib in
/-- The same at a slice of length 0 that is not nil, WHATEVER ITS ADDRESS (no cell is asked for): a slice that is not nil and owns nothing comes back. (LAID: no walk: one application.) -/
theorem Tryz.slices_Clone_string_zero (a : Addr) (c : Nat) (w : World) :
    Calls Tryz.prog 144 #[.slice (some a) 0 c] w fun e w' => ∃ v', e = .returned v' ∧ w'.ownsRow w.heap.size 9 1 v' 0 [] ∧ v' ≠ .slice none 0 0 ∧ Below w.heap.size w w' := Any.slices_Clone_string_zero Tryz.laysNm216 a c w
end Go.Proofs.YtgjijcgkmofaaaaGreatDoor

/-
  slices.BinarySearchFunc over entries, by their names; slices.Insert of an entry at the end. Conditions: the entries rise by their names.
-/
namespace Go.Proofs.YtgjijcgkmofaaaaGreatDoor
set_option linter.unusedSimpArgs false
set_option linter.unusedVariables false
open Go.RowKit

set_option maxRecDepth 100000 in
theorem cmp2_any (x : Ent) (t : ByteArray) (w : World) :
    Calls Tryz.prog 78 #[entV x, .string t] w fun e w' => e = .returned (.int .i64 (Lib.compareBytes (lst x.name) (lst t))) ∧ Ext w w' := by
  unfold entV
  go_enter Tryz.func78, Tryz.ntmps78
  go_wp2_with fail
  refine (compare_any x.name t _).mono ?_
  rintro e w1 ⟨rfl, rfl⟩
  go_wp2_with fail
  go_ret
  exact ⟨rfl, (Ext.refl w).alloc _⟩
set_option maxRecDepth 100000 in
set_option maxHeartbeats 4000000 in
theorem search2_any (A2 : Option Addr) (c2 : Nat) (l : List Ent) (t : ByteArray) (w : World)
    (hS : ∀ k, k < l.length → ∃ b o, A2 = some ⟨b, o, none⟩ ∧ ∀ (i : Nat) (hi : i < l.length) (j : Nat) (u : Value), (encEnt l[i])[j]? = some u → w.cell? ⟨b, o + i * 4 + j, none⟩ = some u)
    (hr : Rising l) (hn : l.length ≤ 20) :
    Calls Tryz.prog 77 #[.slice A2 l.length c2, .string t, .func (.func 78) #[] #[]] w fun e w' => ∃ (i : Nat) (b : Bool), e = .returned (.tuple #[.int .i64 i, .bool b]) ∧ Ext w w' ∧ i ≤ l.length ∧ Cut_ l t i i ∧ (b = true → ∃ h : i < l.length, lst l[i].name = lst t) ∧ (b = false → ∀ h : i < l.length, lst l[i].name ≠ lst t) := by
  have HS := Lib.hid hS
  have HR := Lib.hid hr
  have hn10 : (l.length : Int) ≤ 20 := by omega
  clear hS hr
  go_enter Tryz.func77, Tryz.ntmps77
  go_wp2_with fail
  go_loopw [9, 10] (fun iv jv wr => ∃ i j : Nat, iv = .int .i64 i ∧ jv = .int .i64 j ∧ i ≤ j ∧ j ≤ l.length ∧ Ext w wr ∧ Cut_ l t i j) (fun iv jv _ => (intOf jv).toNat - (intOf iv).toNat)
  case atStart => exact ⟨0, l.length, rfl, rfl, Nat.zero_le _, Nat.le_refl _, Ext.refl _, cut_start l t⟩
  case round =>
    obtain ⟨i, j, rfl, rfl, hij, hj, hx, hc⟩ := hrel
    have HC := Lib.hid hc
    clear hc
    by_cases hlt : i < j
    · obtain ⟨h, hh⟩ : ∃ h, h = (i + j) / 2 := ⟨_, rfl⟩
      have hhl : h < l.length := by omega
      have hih : i ≤ h ∧ h < j := by omega
      have y1 : IntKind.u64.wrap ((i : Int) + (j : Int)) = (i : Int) + (j : Int) := by rw [IntKind.wrap_u64]; omega
      have y2 : ((i : Int) + (j : Int)) / 2 = (h : Int) := by omega
      have y3 : IntKind.i64.wrap (h : Int) = (h : Int) := by rw [IntKind.wrap_i64]; omega
      have hh10 : (h : Int) < 20 := by omega
      have hhI : (h : Int) < (l.length : Int) := by omega
      obtain ⟨b2, o2, rfl, g1⟩ := HS.out h hhl
      have q0 := hx.cell (g1 h hhl 0 _ rfl)
      have q1 := hx.cell (g1 h hhl 1 _ rfl)
      have q2 := hx.cell (g1 h hhl 2 _ rfl)
      have q3 := hx.cell (g1 h hhl 3 _ rfl)
      simp only [Nat.add_zero] at q0
      have HUP := Lib.hid (fun hl => cut_up HR.out HC.out hhl hl)
      have HDN := Lib.hid (fun hl => cut_down HR.out HC.out hhl hl)
      obtain ⟨X, hX⟩ : ∃ X, X = l[h] := ⟨_, rfl⟩
      rw [← hX] at q0 q1 q2 q3 HUP HDN
      have HIH := Lib.hid (And.intro hih (And.intro hij hj))
      have HX := Lib.hid hx
      have hltI : (i : Int) < (j : Int) := by omega
      have hj10 : (j : Int) ≤ 20 := by omega
      clear g1 hX hh hih hx HC hij hj
      go_wp2_with fail
      refine (cmp2_any X t _).mono ?_
      rintro e w1 ⟨rfl, hx1⟩
      have HX1 := Lib.hid (HX.out.trans hx1)
      have hcn := cmp_neg (lst X.name) (lst t)
      obtain ⟨r, hrr⟩ : ∃ r, r = Lib.compareBytes (lst X.name) (lst t) := ⟨_, rfl⟩
      rw [← hrr] at hcn ⊢
      clear hx1 hrr q0 q1 q2 q3
      cases hb : Op.bytesLess (lst X.name) (lst t) with
      | true =>
        have HU := Lib.hid (HUP.out hb)
        rw [hb] at hcn
        clear hb
        go_wp2_with fail
        go_roundw
        case rel => exact ⟨h + 1, j, by go_num, rfl, by have := HIH.out; omega, HIH.out.2.2, HX1.out, HU.out⟩
        case measure => have := HIH.out; simp [intOf]; omega
      | false =>
        have HD := Lib.hid (HDN.out hb)
        rw [hb] at hcn
        clear hb
        go_wp2_with fail
        go_roundw
        case rel => exact ⟨i, h, rfl, by go_num, HIH.out.1.1, by omega, HX1.out, HD.out⟩
        case measure => have := HIH.out; simp [intOf]; omega
    · obtain rfl : i = j := by omega
      have HCC := Lib.hid (And.intro hj HC.out)
      have HX := Lib.hid hx
      by_cases hi : i < l.length
      · have hiI : (i : Int) < (l.length : Int) := by omega
        have hi10 : (i : Int) < 20 := by omega
        obtain ⟨b2, o2, rfl, g1⟩ := HS.out i hi
        have q0 := hx.cell (g1 i hi 0 _ rfl)
        have q1 := hx.cell (g1 i hi 1 _ rfl)
        have q2 := hx.cell (g1 i hi 2 _ rfl)
        have q3 := hx.cell (g1 i hi 3 _ rfl)
        simp only [Nat.add_zero] at q0
        have HLX := Lib.hid (show l[i] = l[i] from rfl)
        obtain ⟨X, hX⟩ : ∃ X, X = l[i] := ⟨_, rfl⟩
        rw [← hX] at q0 q1 q2 q3
        have HXE := Lib.hid hX
        clear g1 hX hij hj hx HC
        go_wp2_with fail
        refine (cmp2_any X t _).mono ?_
        rintro e w1 ⟨rfl, hx1⟩
        have HX1 := Lib.hid (HX.out.trans hx1)
        have hcz := cmp_zero (lst X.name) (lst t)
        obtain ⟨r, hrr⟩ : ∃ r, r = Lib.compareBytes (lst X.name) (lst t) := ⟨_, rfl⟩
        rw [← hrr] at hcz ⊢
        clear hx1 hrr q0 q1 q2 q3
        have HI := Lib.hid hi
        by_cases he : lst X.name = lst t
        · have hr0 : r = 0 := hcz.2 he
          subst hr0
          have HF1 := Lib.hid (show lst (l[i]'HI.out).name = lst t by have hxe := HXE.out; rw [hxe] at he; exact he)
          clear hcz he
          go_wp2_with fail
          go_ret2
          exact ⟨i, true, rfl, HX1.out, HCC.out.1, HCC.out.2, fun _ => ⟨HI.out, HF1.out⟩, fun h => by cases h⟩
        · have hr0 : (r == 0) = false := beq_false_of_ne (fun h => he (hcz.1 h))
          have HF1 := Lib.hid (show lst (l[i]'HI.out).name ≠ lst t by have hxe := HXE.out; rw [hxe] at he; exact he)
          clear hcz he
          go_wp2_with fail
          go_ret2
          exact ⟨i, false, rfl, HX1.out, HCC.out.1, HCC.out.2, (fun h => by cases h), fun _ _ => HF1.out⟩
      · have HNI := Lib.hid hi
        have hi10 : (i : Int) ≤ 20 := by omega
        clear hx HC
        go_wp2_with fail
        go_ret2
        exact ⟨i, false, rfl, HX.out, HCC.out.1, HCC.out.2, (fun h => by cases h), fun _ h => absurd h HNI.out⟩
set_option maxRecDepth 100000 in
set_option maxHeartbeats 4000000 in
/-- An entry more, behind all others. -/
theorem insertEnd_any (A : Option Addr) (c base n : Nat) (xs : List Value) (x : Ent) (gv : Nat) (w : World) (ho : w.ownsRow base 113 4 (.slice A n c) n xs) (hn : n ≤ 20) (hb : base ≤ w.heap.size)
    (hv : ∀ (j : Nat) (u : Value), (encEnt x)[j]? = some u → w.cell? ⟨gv, j, none⟩ = some u) :
    Calls Tryz.prog 80 #[.slice A n c, .int .i64 n, .slice (some ⟨gv, 0, none⟩) 1 1] w fun e w' => ∃ A' c', e = .returned (.slice A' (n + 1) c') ∧ w'.ownsRow base 113 4 (.slice A' (n + 1) c') (n + 1) (xs ++ encEnt x) ∧ w.grownBy w' (Value.slice A n c).ownBlock ∧
      ((Value.slice A' (n + 1) c').ownBlock = (Value.slice A n c).ownBlock ∨ (Value.slice A' (n + 1) c').ownBlock = some w.heap.size) := by
  obtain ⟨i1, hi1, za1, zb1, zc1⟩ := info_parts info_ent
  have HI := Lib.hid (And.intro hi1 (And.intro za1 (And.intro zb1 zc1)))
  have HO := Lib.hid ho
  have HV := Lib.hid hv
  have hc : n ≤ c ∧ c ≤ 9223372036854775807 := by
    rcases ho.2 with ⟨hnil, h0⟩ | ⟨g, cap, cur, hv', _, _, h1, h2, _⟩
    · injection hnil with a1 a2 a3
      omega
    · injection hv' with a1 a2 a3
      unfold maxLen at h2
      omega
  have hcn : (n : Int) ≤ (c : Int) := by omega
  have hnI : (n : Int) ≤ 20 := by omega
  have hcI : (c : Int) ≤ 9223372036854775807 := by omega
  clear hi1 za1 zb1 zc1 ho hv
  go_enter Tryz.func80, Tryz.ntmps80
  by_cases hcc : c = n
  · subst hcc
    go_wp2_with (at_builtin; refine wpList_append_at w rfl (.tmp 23) (.tmp 24) 86 rfl base 113 i1 (.agg #[.string .empty, .int .i64 0, .int .i64 0, .int .i64 0]) 4 40 Tryz.underlying86 HI.out.1 HI.out.2.1 HI.out.2.2.1 HI.out.2.2.2 rfl (by decide) (.slice A c c) c xs rfl HO.out ⟨gv, 0, none⟩ 1 1 (encEnt x) rfl rfl ?c0 ?c1 ?c2 ?c3 ?c4 ?_)
    case c0 =>
      intro j u hj
      have hvj := HV.out j u hj
      have hae : (Addr.add ⟨gv, 0, none⟩ j) = ⟨gv, j, none⟩ := by simp [Addr.add]; exact fun h => h.symm
      rw [hae]
      exact hvj
    case c1 => intro u hu; simp only [encEnt, List.mem_cons, List.not_mem_nil, or_false] at hu; rcases hu with rfl | rfl | rfl | rfl <;> rfl
    case c2 => unfold maxLen; omega
    case c3 => omega
    case c4 => exact hb
    intro A' c' w' own' hg' hap'
    have HO' := Lib.hid (And.intro own' (And.intro hg' hap'))
    clear own' hg' hap'
    go_wp2_with fail
    go_ret
    exact ⟨A', c', rfl, HO'.out.1, HO'.out.2.1, HO'.out.2.2⟩
  · skip
    go_wp2_with (at_builtin; refine wpList_append_at w rfl (.tmp 23) (.tmp 24) 86 rfl base 113 i1 (.agg #[.string .empty, .int .i64 0, .int .i64 0, .int .i64 0]) 4 40 Tryz.underlying86 HI.out.1 HI.out.2.1 HI.out.2.2.1 HI.out.2.2.2 rfl (by decide) (.slice A n c) n xs rfl HO.out ⟨gv, 0, none⟩ 1 1 (encEnt x) rfl rfl ?c0 ?c1 ?c2 ?c3 ?c4 ?_)
    case c0 =>
      intro j u hj
      have hvj := HV.out j u hj
      have hae : (Addr.add ⟨gv, 0, none⟩ j) = ⟨gv, j, none⟩ := by simp [Addr.add]; exact fun h => h.symm
      rw [hae]
      exact hvj
    case c1 => intro u hu; simp only [encEnt, List.mem_cons, List.not_mem_nil, or_false] at hu; rcases hu with rfl | rfl | rfl | rfl <;> rfl
    case c2 => unfold maxLen; omega
    case c3 => omega
    case c4 => exact hb
    intro A' c' w' own' hg' hap'
    have HO' := Lib.hid (And.intro own' (And.intro hg' hap'))
    clear own' hg' hap'
    go_wp2_with fail
    go_ret
    exact ⟨A', c', rfl, HO'.out.1, HO'.out.2.1, HO'.out.2.2⟩

theorem own_ents {w : World} {b : Nat} {t : TypeId} {A : Option Addr} {c : Nat} {L : List Ent} (h : w.ownsRow b t 4 (.slice A L.length c) L.length (L.flatMap encEnt)) :
    ∀ (k : Nat) (_ : k < L.length), ∃ b o, A = some ⟨b, o, none⟩ ∧ ∀ (i : Nat) (hi : i < L.length) (j : Nat) (u : Value), (encEnt L[i])[j]? = some u → w.cell? ⟨b, o + i * 4 + j, none⟩ = some u := by
  intro k hk
  have h' := h
  rcases h.2 with ⟨_, h0⟩ | ⟨g, cap, cur, hv, _⟩
  · omega
  · injection hv with a1 a2 a3
    subst a1
    refine ⟨g, 0, rfl, fun i hi j u hu => ?_⟩
    have hj : j < 4 := (List.getElem?_eq_some_iff.1 hu).1
    have hc := h'.cellAt (i * 4 + j) (by omega)
    rw [Nat.zero_add, hc, flatMap_at (enc := encEnt) (C := 4) (fun _ => rfl) L i j hi hj]
    exact hu
/-- Names that come are there already, or behind all others. -/
def Up (nb : Nat) : List Ent → Nat → List Fil → Prop
  | _, _, [] => True
  | es, p, f :: l => (∃ y ∈ es, lst y.name = lst f.name) ∨ ((∀ y ∈ es, Op.bytesLess (lst y.name) (lst f.name) = true) ∧ Up nb (es ++ [⟨f.name, nb, p, f.data.size⟩]) (p + f.data.size) l)
theorem insE_end {x : Ent} {es : List Ent} (h : ∀ y ∈ es, Op.bytesLess (lst y.name) (lst x.name) = true) : insE x es = es ++ [x] := by
  have := insE_split (x := x) es [] h
  rw [List.append_nil] at this
  exact this
theorem addE_there {nb : Nat} {es : List Ent} {p : Nat} {f : Fil} {l : List Fil} (h : ∃ y ∈ es, lst y.name = lst f.name) : addE nb es p (f :: l) = none := by
  unfold addE
  rw [if_pos]
  obtain ⟨y, hy, e⟩ := h
  exact List.any_eq_true.2 ⟨y, hy, decide_eq_true e⟩
theorem addE_end {nb : Nat} {es : List Ent} {p : Nat} {f : Fil} {l : List Fil} (h : ∀ y ∈ es, Op.bytesLess (lst y.name) (lst f.name) = true) : addE nb es p (f :: l) = addE nb (es ++ [⟨f.name, nb, p, f.data.size⟩]) (p + f.data.size) l := by
  show (if es.any (fun y => decide (lst y.name = lst f.name)) then none else addE nb (insE ⟨f.name, nb, p, f.data.size⟩ es) (p + f.data.size) l) = _
  rw [if_neg, insE_end (x := ⟨f.name, nb, p, f.data.size⟩) h]
  intro ha
  obtain ⟨y, hy, e⟩ := List.any_eq_true.1 ha
  have := h y hy
  rw [of_decide_eq_true e, bl_irrefl] at this
  cases this
theorem pair_end {x : Ent} {es : List Ent} (hp : es.Pairwise Less) (h : ∀ y ∈ es, Op.bytesLess (lst y.name) (lst x.name) = true) : (es ++ [x]).Pairwise Less := by
  rw [List.pairwise_append]
  refine ⟨hp, List.pairwise_singleton _ _, fun y hy z hz => ?_⟩
  obtain rfl := List.mem_singleton.1 hz
  exact h y hy
set_option maxRecDepth 100000 in
set_option maxHeartbeats 4000000 in
theorem entries_any (cs : List Value) (d : Cat) (v : Value) (l : List Fil) (w : World) (h : RCat w cs d) (hf : SlR 2 32 RFil w v l) (hp : d.entries.Pairwise Less) (hd : d.entries.length ≤ 10) (hl : l.length ≤ 10) (hz : ∀ f ∈ l, f.data.size ≤ 200) (hb : d.blocks.length ≤ 10)
    (hu : Up d.blocks.length d.entries 0 l) :
    Calls Tryz.prog 47 #[.agg cs.toArray, v] w fun e w' =>
      (addE d.blocks.length d.entries 0 l = none ∧ e = .returned (.tuple #[.slice none 0 0, .int .i64 7]) ∧ Ext w w') ∨
      (∃ es A c, addE d.blocks.length d.entries 0 l = some es ∧ e = .returned (.tuple #[.slice A es.length c, .int .i64 0]) ∧ Ext w w' ∧ w'.ownsRow w.heap.size 113 4 (.slice A es.length c) es.length (es.flatMap encEnt)) := by
  have h' := h
  obtain ⟨v1, v2, rfl, h1, h2'⟩ := h'
  have h2 := h2'
  obtain ⟨A1, c1, rfl, l1, hc1, p1⟩ := h1.rowE encBlk_ok
  obtain ⟨A2, c2, rfl, l2, hc2, s1⟩ := h2'.rowE encEnt_ok
  obtain ⟨A3, c3, rfl, hlb3, hc3, r3⟩ := hf.rowE encFil_ok
  have HF := Lib.hid r3
  have HE := Lib.hid h2
  have HP := Lib.hid hp
  have HD := Lib.hid hd
  have HL := Lib.hid hl
  have HZ := Lib.hid hz
  have HU := Lib.hid hu
  have hbI : (d.blocks.length : Int) ≤ 10 := by omega
  have hlI : (l.length : Int) ≤ 10 := by omega
  clear h h1 h2' h2 l1 hc1 p1 l2 hc2 s1 hf hlb3 hc3 r3 hp hd hl hz hu
  go_enter Tryz.func47, Tryz.ntmps47
  go_wp2_with fail
  refine calls_abs (fun W => Ext w W ∧ Blk_ W w.heap.size 88 #[.slice A1 d.blocks.length c1, .slice A2 d.entries.length c2]) ⟨(Ext.refl _).alloc _, Blk_.new _ _ _⟩ ?_
  rintro w1 ⟨hx1, hb1⟩
  obtain ⟨b2, hb2⟩ : ∃ b, b = w.heap.size := ⟨_, rfl⟩
  rw [← hb2] at hb1 ⊢
  have HB2 := Lib.hid hb2
  have HX1 := Lib.hid hx1
  have HB1 := Lib.hid hb1
  have HE1 := Lib.hid (HE.out.ext REnt.stays hx1)
  clear hx1 hb1 hb2
  refine (clone_ent _ _ d.entries HE1.out).mono ?_
  rintro e w2 ⟨A5, c5, rfl, hx2, ho2⟩
  have HX2 := Lib.hid hx2
  have HO2 := Lib.hid ho2
  have HW1 := Lib.hid (show b2 < w1.heap.size from HB1.out.lt)
  clear hx2 ho2
  go_wp2_with fail
  go_loopw [6, 7, 17] (fun ev pv iv wr => ∃ (k p : Nat) (es : List Ent) (A : Option Addr) (c : Nat), ev = .slice A es.length c ∧ pv = .int .i64 p ∧ iv = .int .i64 k ∧ k ≤ l.length ∧ p ≤ 200 * k ∧ es.length = d.entries.length + k ∧ es.Pairwise Less ∧
      Up d.blocks.length es p (l.drop k) ∧ addE d.blocks.length es p (l.drop k) = addE d.blocks.length d.entries 0 l ∧ Ext w1 wr ∧ w1.heap.size ≤ wr.heap.size ∧ wr.ownsRow w1.heap.size 113 4 (.slice A es.length c) es.length (es.flatMap encEnt)) (fun _ _ iv _ => l.length - (intOf iv).toNat)
  case atStart => exact ⟨0, 0, d.entries, A5, c5, rfl, rfl, rfl, Nat.zero_le _, Nat.le_refl _, rfl, HP.out, HU.out, rfl, HX2.out, HX2.out.size, HO2.out⟩
  case round =>
    clear HO2 HX2
    obtain ⟨k, p, es, A, c, rfl, rfl, rfl, hk, hpk, hel, hpw, hup, hadd, hx, hsz, ho⟩ := hrel
    have hes : (es.length : Int) ≤ 20 := by have := HD.out; have := HL.out; omega
    have hpI : (p : Int) ≤ 2000 := by have := HL.out; omega
    have HO := Lib.hid ho
    have HX := Lib.hid hx
    have HPW := Lib.hid hpw
    have HAD := Lib.hid hadd
    have HEL := Lib.hid hel
    have HPK := Lib.hid hpk
    have q0 := (HB1.out.ext hx).cell 0
    have q1 := (HB1.out.ext hx).cell 1
    simp at q0 q1
    have lb := (HB1.out.ext hx).lt
    by_cases hlt : k < l.length
    · have hki : (k : Int) < (l.length : Int) := by omega
      obtain ⟨b3, o3, rfl, g3⟩ := HF.out k hlt
      have f0 := (HX1.out.trans hx).cell (g3 k hlt 0 _ rfl)
      have f1 := (HX1.out.trans hx).cell (g3 k hlt 1 _ rfl)
      simp only [Nat.add_zero] at f0
      have hdr : l.drop k = l[k] :: l.drop (k + 1) := List.drop_eq_getElem_cons hlt
      have hfz := HZ.out l[k] (List.getElem_mem hlt)
      obtain ⟨f, hff⟩ : ∃ f, f = l[k] := ⟨_, rfl⟩
      rw [← hff] at f0 f1 hdr hfz
      rw [hdr] at hup
      have HAD2 := Lib.hid (show addE d.blocks.length es p (f :: l.drop (k + 1)) = addE d.blocks.length d.entries 0 l by rw [← hdr]; exact HAD.out)
      have HUP := Lib.hid hup
      have HLT := Lib.hid hlt
      have hfI : (f.data.size : Int) ≤ 200 := by omega
      have HFZ := Lib.hid hfz
      clear g3 hff hdr hup hadd hx hpw ho hel hpk hfz hlt hk HAD
      go_wp2_with fail
      refine calls_abs (fun W => Ext wr W ∧ Blk_ W wr.heap.size 57 #[.string f.name, .string f.data]) ⟨(Ext.refl _).alloc _, Blk_.new _ _ _⟩ ?_
      rintro w3 ⟨hx3, hb3⟩
      obtain ⟨b9, hb9⟩ : ∃ b, b = wr.heap.size := ⟨_, rfl⟩
      rw [← hb9] at hb3 ⊢
      have HB3 := Lib.hid hb3
      have HX3 := Lib.hid (HX.out.trans hx3)
      have HO3 := Lib.hid (own_ext HO.out hx3)
      clear hx3 hb3 hb9 HX HO q0 q1 lb f0 f1
      refine (search2_any A c es f.name w3 (own_ents HO3.out) ((rising_iff _).2 HPW.out) (by omega)).mono ?_
      rintro e w4 ⟨i, b, rfl, hx4, hi, hcut, ht, hn⟩
      have HX4 := Lib.hid (HX3.out.trans hx4)
      have HO4 := Lib.hid (own_ext HO3.out hx4)
      have HB4 := Lib.hid (HB3.out.ext hx4)
      have HC4 := Lib.hid (HB1.out.ext (HX3.out.trans hx4))
      clear hx4 HX3 HO3 HB3
      cases b with
      | true =>
        obtain ⟨hil, hie⟩ := ht rfl
        have hnone := addE_there (nb := d.blocks.length) (p := p) (l := l.drop (k + 1)) ⟨es[i], List.getElem_mem hil, hie⟩
        rw [HAD2.out] at hnone
        have HNO := Lib.hid hnone
        have hiI : (i : Int) ≤ 20 := by omega
        clear hil hie hnone ht hn hcut
        go_wp2_with fail
        go_ret2
        exact .inl ⟨HNO.out, rfl, HX1.out.trans HX4.out⟩
      | false =>
        have hno : ¬ ∃ y ∈ es, lst y.name = lst f.name := by
          rintro ⟨y, hy, e⟩
          have hfn := cut_not ((rising_iff _).2 HPW.out) hcut (hn rfl)
          have := List.find?_eq_none.1 hfn y hy
          simp only [decide_eq_true_eq] at this
          exact this e
        rcases HUP.out with hyes | ⟨hall, hup⟩
        · exact absurd hyes hno
        have hil : i = es.length := by
          by_cases he : i = es.length
          · exact he
          · exfalso
            have h1 := hcut.2 i (by omega) (Nat.le_refl _)
            have h2 := hall es[i] (List.getElem_mem (by omega))
            rw [h2] at h1
            cases h1
        subst hil
        have hend := addE_end (nb := d.blocks.length) (p := p) (l := l.drop (k + 1)) hall
        rw [HAD2.out] at hend
        have HEND := Lib.hid hend
        have HPE := Lib.hid (pair_end (x := ⟨f.name, d.blocks.length, p, f.data.size⟩) HPW.out hall)
        have HUP2 := Lib.hid hup
        have q0 := HC4.out.cell 0
        have f0 := HB4.out.cell 0
        have f1 := HB4.out.cell 1
        simp at q0 f0 f1
        have l9 := HB4.out.lt
        have l2 := HC4.out.lt
        clear hno hall hup hend ht hn hcut hi HUP HAD2 HPW
        go_wp2_with fail
        refine calls_abs (fun W => Ext w4 W ∧ Blk_ W w4.heap.size 113 #[.string f.name, .int .i64 d.blocks.length, .int .i64 p, .int .i64 f.data.size]) ⟨(Ext.refl _).alloc _, Blk_.new _ _ _⟩ ?_
        rintro w5 ⟨hx5, hb5⟩
        have HX5 := Lib.hid (HX4.out.trans hx5)
        have HB5 := Lib.hid (HB4.out.ext hx5)
        have HO5 := Lib.hid (own_ext HO4.out hx5)
        refine (insertEnd_any A c w1.heap.size es.length (es.flatMap encEnt) ⟨f.name, d.blocks.length, p, f.data.size⟩ w4.heap.size w5 HO5.out (by omega) (by have := HX5.out.size; exact this) (fun j u hj => by rw [hb5.cell, List.getElem?_toArray]; exact hj)).mono ?_
        rintro e w6 ⟨A6, c6, rfl, ho6, hg6, _⟩
        have hgb : ∀ g, (Value.slice A es.length c).ownBlock = some g → w1.heap.size ≤ g := fun g hg => (HO5.out.lt g hg).1
        have HX6 := Lib.hid (HX5.out.grown hg6 hgb)
        have HSZ := Lib.hid (Nat.le_trans HX5.out.size hg6.size)
        have hes1 : es.length + 1 = (es ++ [(⟨f.name, d.blocks.length, p, f.data.size⟩ : Ent)]).length := by simp
        have hfm : es.flatMap encEnt ++ encEnt ⟨f.name, d.blocks.length, p, f.data.size⟩ = (es ++ [(⟨f.name, d.blocks.length, p, f.data.size⟩ : Ent)]).flatMap encEnt := by rw [List.flatMap_append]; simp
        rw [hfm] at ho6
        have HO6 := Lib.hid ho6
        have HES1 := Lib.hid hes1
        clear hes1
        have f1' : w6.cell? ⟨b9, 1, none⟩ = some (.string f.data) := by
          have h0 := (HB5.out.grown hg6 (own_ne HO5.out HB5.out (by decide))).cell 1
          simpa using h0
        clear hx5 hb5 ho6 hg6 hgb hfm q0 f0 f1 HX5 HB5 HO5 l9 l2
        go_wp2_with fail
        go_roundw
        case rel =>
          refine ⟨k + 1, p + f.data.size, es ++ [⟨f.name, d.blocks.length, p, f.data.size⟩], A6, c6, by rw [← HES1.out], by go_num, by first | rfl | go_num, by have := HLT.out; omega, by have := HPK.out; have := HFZ.out; omega, by have := HEL.out; simp; omega, HPE.out, HUP2.out, HEND.out.symm, HX6.out, HSZ.out, ?_⟩
          rw [← HES1.out]
          exact HO6.out
        case measure => have := HLT.out; (simp [intOf]; try omega)
    · obtain rfl : k = l.length := by omega
      have hfin := HAD.out
      rw [List.drop_length] at hfin
      have HFIN := Lib.hid (show addE d.blocks.length d.entries 0 l = some es by rw [← hfin]; rfl)
      clear hfin hup hadd hx hpw ho hel hpk hlt hk
      go_wp2_with fail
      go_ret2
      refine .inr ⟨es, A, c, HFIN.out, rfl, HX1.out.trans HX.out, own_base HO.out (by have := HX1.out.size; have := HB2.out; have := HW1.out; omega)⟩
end Go.Proofs.YtgjijcgkmofaaaaGreatDoor
