/-
  array.xor and the document's others: where two texts of one length differ, byte by byte. Conditions: both are of one length, and not empty.
-/
import Derived.Test.YtokpjgpdkmimgaaDoorB
import Derived.Test.YtokpjgpdkmimgaaDoorE2
import Derived.Test.YtokpjgpdkmimgaaDoorR2
import Derived.Test.YtokpjgpdkmimgaaDoorRows
import Derived.Laws.BitsAllLaws
namespace Go.Proofs.YtokpjgpdkmimgaaDoor
set_option linter.unusedSimpArgs false
set_option linter.unusedVariables false
open Go.RowKit

/-- A row of bytes of the call's own. -/
theorem own_buf {w : World} {base : Nat} {e : TypeId} {A : Option Addr} {n c : Nat} {l : List UInt8} (h : w.ownsRow base e 1 (.slice A n c) n (l.flatMap encByte)) (hn : 0 < n) : ∃ g, A = some ⟨g, 0, none⟩ ∧ base ≤ g ∧ Buf e w g l ∧ n = l.length := by
  have h' := h
  have hlen : n = l.length := by
    have h1 := h.1
    rw [length_flatMap (C := 1) (fun _ => rfl)] at h1
    omega
  rcases h.2 with ⟨hv, h0⟩ | ⟨g, cap, cur, hv, hb, hg, _⟩
  · omega
  · injection hv with a1 a2 a3
    subst a1
    refine ⟨g, rfl, hb, ⟨cur, (0, 0), hg, fun i hi => ?_, fun i hi => by simp⟩, hlen⟩
    have hc := h'.cellAt i (by omega)
    rw [cell_of_row w g i cur e (0, 0) hg] at hc
    rw [hc]
    have := flatMap_at (enc := encByte) (C := 1) (fun _ => rfl) l i 0 hi (by decide)
    rw [Nat.mul_one, Nat.add_zero] at this
    rw [this, List.getD_eq_getElem?_getD, List.getElem?_eq_getElem hi]
    rfl
theorem info_byte : (Tryd.prog.info? 5).map (fun i => (i.zero, i.size, i.bytes)) = some (some (.int .u8 0), 1, 1) := by kernel_rfl

/-- The first k bytes are those of both, where they differ; then those of the first one. -/
def xorTo (s t : ByteArray) (k : Nat) : List UInt8 := (List.zipWith (fun a b => a ^^^ b) (lst s) (lst t)).take k ++ (lst s).drop k
theorem xorTo_zero (s t : ByteArray) : xorTo s t 0 = lst s := by unfold xorTo; simp
theorem xorTo_len {s t : ByteArray} (h : s.size = t.size) (k : Nat) (hk : k ≤ s.size) : (xorTo s t k).length = s.size := by
  unfold xorTo; rw [List.length_append, List.length_take, List.length_zipWith, List.length_drop, length_lst, length_lst]; omega
theorem xorTo_end {s t : ByteArray} (h : s.size = t.size) : bs (xorTo s t s.size) = xorS s t := by
  unfold xorTo xorS
  rw [List.take_of_length_le (by rw [List.length_zipWith, length_lst, length_lst]; omega), List.drop_of_length_le (by rw [length_lst]; exact Nat.le_refl _), List.append_nil]
theorem xorTo_at {s t : ByteArray} (h : s.size = t.size) (k : Nat) (hk : k < s.size) : (xorTo s t k).getD k 0 = s[k] := by
  unfold xorTo
  have hl : ((List.zipWith (fun a b => a ^^^ b) (lst s) (lst t)).take k).length = k := by rw [List.length_take, List.length_zipWith, length_lst, length_lst]; omega
  rw [List.getD_eq_getElem?_getD, List.getElem?_append_right (by omega), hl, Nat.sub_self, List.getElem?_drop, Nat.add_zero, List.getElem?_eq_getElem (by rw [length_lst]; exact hk)]
  rfl
theorem xorTo_succ {s t : ByteArray} (h : s.size = t.size) (k : Nat) (hk : k < s.size) : (xorTo s t k).set k (s[k] ^^^ t[k]'(by omega)) = xorTo s t (k + 1) := by
  unfold xorTo
  have hl : ((List.zipWith (fun a b => a ^^^ b) (lst s) (lst t)).take k).length = k := by rw [List.length_take, List.length_zipWith, length_lst, length_lst]; omega
  have hz : k < (List.zipWith (fun a b => a ^^^ b) (lst s) (lst t)).length := by rw [List.length_zipWith, length_lst, length_lst]; omega
  rw [List.set_append_right _ _ (by omega), hl, Nat.sub_self, List.drop_eq_getElem_cons (by rw [length_lst]; exact hk), List.set_cons_zero, List.take_succ_eq_append_getElem hz, List.getElem_zipWith, List.append_assoc]
  rfl
theorem xor_byte (a b : UInt8) : bits .xor .u8 (a.toNat : Int) (b.toNat : Int) = ((a ^^^ b).toNat : Int) := by
  rw [u8_xor_nat _ _ (UInt8.toNat_lt _) (UInt8.toNat_lt _)]
  simp
set_option maxRecDepth 100000 in
set_option maxHeartbeats 800000 in
theorem xor_any (s t : ByteArray) (w : World) (h : s.size = t.size) (hs : s.size ≤ 140737488355328) :
    Calls Tryd.prog 82 #[.string s, .string t] w fun e w' => e = .returned (.string (xorS s t)) ∧ Ext w w' := by
  have HE := Lib.hid h
  go_enter Tryd.func82, Tryd.ntmps82
  clear h
  go_wp2_with (refine wpList_tobytes (.tmp 7) 9 34 5 rfl rfl Tryd.underlying9 Tryd.underlying34 Tryd.underlying5 s rfl ?_)
  intro g cap w1 hg ex1 hb1 hcap
  have HB1 := Lib.hid hb1
  have HX1 := Lib.hid ex1
  clear hb1 ex1
  go_wp2_with fail
  go_loopw [11] (fun i wr => ∃ k : Nat, i = .int .i64 k ∧ k ≤ s.size ∧ Ext w wr ∧ Buf 5 wr g (xorTo s t k)) (fun i _ => s.size - (intOf i).toNat)
  case atStart => exact ⟨0, rfl, Nat.zero_le _, HX1.out, by rw [xorTo_zero]; exact HB1.out⟩
  case round =>
    clear HB1 HX1
    obtain ⟨k, rfl, hk, hx, hb⟩ := hrel
    by_cases hlt : k < s.size
    · have hlt2 : k < t.size := by have := HE.out; omega
      have hki : (k : Int) < (s.size : Int) := by omega
      have hki2 : (k : Int) < (t.size : Int) := by omega
      have hbl : k < (xorTo s t k).length := by rw [xorTo_len HE.out k hk]; exact hlt
      have bp := hb.cell k hbl
      have bz := hb.frozen k hbl
      rw [xorTo_at HE.out k hlt] at bp
      have hxb := xor_byte (s[k]) (t[k])
      have c0 := u8_hi s[k]
      have c1 := u8_hi t[k]
      have hset := hb.set k (((s[k] ^^^ t[k]).toNat : Int)) (u8_lo _) (u8_hi _)
      rw [byte_u8, xorTo_succ HE.out k hlt] at hset
      have HSET := Lib.hid hset
      have HXB := Lib.hid hxb
      clear hb hset hbl hxb
      go_wp2_with fail
      refine wp_region_begin (S := fun W' => W'.cell? ⟨g, k, none⟩ = some (.int .u8 (s[k].toNat : Int))) (n := 9) (by kernel_rfl) rfl (by kernel_rfl) rfl ?_
      have hS0 : (fun W' => W'.cell? ⟨g, k, none⟩ = some (.int .u8 (s[k].toNat : Int))) wr.drew := bp
      refine wpAnyH_takeL (i := 0) (v := ?_) rfl (by kernel_rfl) (fun _ _ _ h => h) rfl ?_ hS0 ?_
      rotate_left
      · intro w' hS
        try dsimp only at hS
        go_simp
        rfl
      try simp only [Act.put, List.setIfInBounds_toArray, List.set_cons_zero, List.set_cons_succ]
      refine wpAnyH_takeL (i := 1) (v := ?_) rfl (by kernel_rfl) (fun _ _ _ h => h) rfl ?_ hS0 ?_
      rotate_left
      · intro w' hS
        try dsimp only at hS
        go_simp
        rfl
      try simp only [Act.put, List.setIfInBounds_toArray, List.set_cons_zero, List.set_cons_succ]
      refine wpAnyH_takeL (i := 2) (v := ?_) rfl (by kernel_rfl) (fun _ _ _ h => h) rfl ?_ hS0 ?_
      rotate_left
      · intro w' hS
        try dsimp only at hS
        go_simp
        rfl
      try simp only [Act.put, List.setIfInBounds_toArray, List.set_cons_zero, List.set_cons_succ]
      refine wpAnyH_takeL (i := 3) (v := ?_) rfl (by kernel_rfl) (fun _ _ _ h => h) rfl ?_ hS0 ?_
      rotate_left
      · intro w' hS
        try dsimp only at hS
        go_simp
        rfl
      try simp only [Act.put, List.setIfInBounds_toArray, List.set_cons_zero, List.set_cons_succ]
      refine wpAnyH_takeL (i := 4) (v := ?_) rfl (by kernel_rfl) (fun _ _ _ h => h) rfl ?_ hS0 ?_
      rotate_left
      · intro w' hS
        try dsimp only at hS
        go_simp
        rfl
      try simp only [Act.put, List.setIfInBounds_toArray, List.set_cons_zero, List.set_cons_succ]
      refine wpAnyH_takeL (i := 5) (v := ?_) rfl (by kernel_rfl) (fun _ _ _ h => h) rfl ?_ hS0 ?_
      rotate_left
      · intro w' hS
        try dsimp only at hS
        go_simp
        rfl
      try simp only [Act.put, List.setIfInBounds_toArray, List.set_cons_zero, List.set_cons_succ]
      refine wpAnyH_takeL (i := 6) (v := ?_) rfl (by kernel_rfl) (fun _ _ _ h => h) rfl ?_ hS0 ?_
      rotate_left
      · intro w' hS
        try dsimp only at hS
        go_simp
        rfl
      try simp only [Act.put, List.setIfInBounds_toArray, List.set_cons_zero, List.set_cons_succ]
      refine wpAnyH_takeL (i := 7) (v := ?_) rfl (by kernel_rfl) (fun _ _ _ h => h) rfl ?_ hS0 ?_
      rotate_left
      · intro w' hS
        try dsimp only at hS
        go_simp
        rfl
      try simp only [Act.put, List.setIfInBounds_toArray, List.set_cons_zero, List.set_cons_succ]
      rw [HXB.out]
      refine wpAnyH_takeL (i := 8) (v := ?_) rfl (by kernel_rfl) (fun _ _ _ h => h) rfl ?_ hS0 ?_
      rotate_left
      · intro w' hS
        try dsimp only at hS
        go_simp
        rfl
      try simp only [Act.put, List.setIfInBounds_toArray, List.set_cons_zero, List.set_cons_succ]
      refine wpAnyH_endL (by kernel_rfl) (fun K hK => ?_)
      go_wp2_with fail
      go_roundw
      case rel => exact ⟨k + 1, by go_num, by omega, (hx.drew).setCell (by dsimp only; omega) _, HSET.out⟩
      case measure => simp [intOf]; omega
    · obtain rfl : k = s.size := by omega
      have HLN := Lib.hid (xorTo_len HE.out s.size hk)
      have hfin := xorTo_end HE.out
      have HFN := Lib.hid hfin
      have HBB := Lib.hid hb
      clear hb hfin
      go_wp2_with (refine wpList_frombytes (.tmp 24) 34 9 5 rfl rfl Tryd.underlying34 Tryd.underlying5 Tryd.underlying9 g s.size cap _ HBB.out HLN.out.symm rfl ?_)
      rw [HFN.out]
      go_wp2_with fail
      go_ret
      exact ⟨rfl, hx⟩

def xorL (s t : ByteArray) : List UInt8 := List.zipWith (fun a b => a ^^^ b) (lst s) (lst t)
theorem xorL_len {s t : ByteArray} (h : s.size = t.size) : (xorL s t).length = s.size := by unfold xorL; rw [List.length_zipWith, length_lst, length_lst]; omega
theorem xorL_succ {s t : ByteArray} (h : s.size = t.size) (k : Nat) (hk : k < s.size) : ((xorL s t).take (k + 1)).flatMap encByte = ((xorL s t).take k).flatMap encByte ++ [.int .u8 ((s[k] ^^^ t[k]'(by omega)).toNat : Int)] := by
  have hz : k < (xorL s t).length := by rw [xorL_len h]; exact hk
  rw [List.take_succ_eq_append_getElem hz, List.flatMap_append]
  congr 1
  have hg : (xorL s t)[k] = s[k] ^^^ t[k]'(by omega) := by
    have := List.getElem_zipWith (f := fun a b : UInt8 => a ^^^ b) (l := lst s) (l' := lst t) (i := k) (h := hz)
    exact this
  rw [hg]
  rfl
set_option maxRecDepth 100000 in
set_option maxHeartbeats 800000 in
theorem others_any (s t : ByteArray) (w : World) (h : s.size = t.size) (h0 : 0 < s.size) (hs : s.size ≤ 1000000000) :
    Calls Tryd.prog 120 #[.string s, .string t] w fun e w' => e = .returned (.string (xorS s t)) ∧ Ext w w' := by
  have HE := Lib.hid h
  have H0 := Lib.hid h0
  obtain ⟨i0, hi, hz0, hz1, hz2⟩ := info_parts info_byte
  have HI := Lib.hid (And.intro hi (And.intro hz0 (And.intro hz1 hz2)))
  clear hi hz0 hz1 hz2
  go_enter Tryd.func120, Tryd.ntmps120
  clear h h0
  go_wp2_with fail
  go_loopw [5, 6] (fun b i wr => ∃ (k : Nat) (A : Option Addr) (c : Nat), b = .slice A k c ∧ i = .int .i64 k ∧ k ≤ s.size ∧ Ext w wr ∧ wr.ownsRow w.heap.size 5 1 (.slice A k c) k (((xorL s t).take k).flatMap encByte)) (fun _ i _ => s.size - (intOf i).toNat)
  case atStart => exact ⟨0, none, 0, rfl, rfl, Nat.zero_le _, Ext.refl _, World.ownsRow_nil _ _ _ _⟩
  case round =>
    obtain ⟨k, A, c, rfl, rfl, hk, hx, ho⟩ := hrel
    by_cases hlt : k < s.size
    · have hlt2 : k < t.size := by have := HE.out; omega
      have hki : (k : Int) < (s.size : Int) := by omega
      have hki2 : (k : Int) < (t.size : Int) := by omega
      have HXB := Lib.hid (xor_byte (s[k]) (t[k]))
      have HSC := Lib.hid (xorL_succ HE.out k hlt)
      have c0 := u8_hi s[k]
      have c1 := u8_hi t[k]
      have HO := Lib.hid ho
      clear ho
      go_wp2_with fail
      refine wp_region_begin (S := fun _ => True) (n := 10) (by kernel_rfl) rfl (by kernel_rfl) rfl ?_
      refine wpAnyH_takeL (i := 0) (v := ?_) rfl (by kernel_rfl) (fun _ _ _ h => h) rfl ?_ trivial ?_
      rotate_left
      · intro w' hS
        try dsimp only at hS
        go_simp
        rfl
      try simp only [Act.put, List.setIfInBounds_toArray, List.set_cons_zero, List.set_cons_succ]
      refine wpAnyH_takeL (i := 1) (v := ?_) rfl (by kernel_rfl) (fun _ _ _ h => h) rfl ?_ trivial ?_
      rotate_left
      · intro w' hS
        try dsimp only at hS
        go_simp
        rfl
      try simp only [Act.put, List.setIfInBounds_toArray, List.set_cons_zero, List.set_cons_succ]
      refine wpAnyH_takeL (i := 2) (v := ?_) rfl (by kernel_rfl) (fun _ _ _ h => h) rfl ?_ trivial ?_
      rotate_left
      · intro w' hS
        try dsimp only at hS
        go_simp
        rfl
      try simp only [Act.put, List.setIfInBounds_toArray, List.set_cons_zero, List.set_cons_succ]
      refine wpAnyH_takeL (i := 3) (v := ?_) rfl (by kernel_rfl) (fun _ _ _ h => h) rfl ?_ trivial ?_
      rotate_left
      · intro w' hS
        try dsimp only at hS
        go_simp
        rfl
      try simp only [Act.put, List.setIfInBounds_toArray, List.set_cons_zero, List.set_cons_succ]
      refine wpAnyH_takeL (i := 4) (v := ?_) rfl (by kernel_rfl) (fun _ _ _ h => h) rfl ?_ trivial ?_
      rotate_left
      · intro w' hS
        try dsimp only at hS
        go_simp
        rfl
      try simp only [Act.put, List.setIfInBounds_toArray, List.set_cons_zero, List.set_cons_succ]
      refine wpAnyH_takeL (i := 5) (v := ?_) rfl (by kernel_rfl) (fun _ _ _ h => h) rfl ?_ trivial ?_
      rotate_left
      · intro w' hS
        try dsimp only at hS
        go_simp
        rfl
      try simp only [Act.put, List.setIfInBounds_toArray, List.set_cons_zero, List.set_cons_succ]
      refine wpAnyH_takeL (i := 6) (v := ?_) rfl (by kernel_rfl) (fun _ _ _ h => h) rfl ?_ trivial ?_
      rotate_left
      · intro w' hS
        try dsimp only at hS
        go_simp
        rfl
      try simp only [Act.put, List.setIfInBounds_toArray, List.set_cons_zero, List.set_cons_succ]
      refine wpAnyH_takeL (i := 7) (v := ?_) rfl (by kernel_rfl) (fun _ _ _ h => h) rfl ?_ trivial ?_
      rotate_left
      · intro w' hS
        try dsimp only at hS
        go_simp
        rfl
      try simp only [Act.put, List.setIfInBounds_toArray, List.set_cons_zero, List.set_cons_succ]
      rw [HXB.out]
      generalize ((s[k] ^^^ t[k]).toNat : Int) = x at *
      refine wpAnyH_oneL (i := 8) rfl (by kernel_rfl) rfl (fun K hK => ?_)
      go_wp2_with fail
      refine hK _ _ trivial ?_
      clear hK K
      try simp only [Act.put, List.setIfInBounds_toArray, List.set_cons_zero, List.set_cons_succ]
      refine anyH_abs (fun W => Ext wr W ∧ Blk_ W wr.heap.size 5 #[.int .u8 x]) ⟨by first | exact (Ext.refl _).alloc _ | exact (Ext.refl _).drew.alloc _, by first | exact Blk_.new _ _ _ | exact (Blk_.new _ _ _).drew⟩ ?_
      rintro W3 ⟨e3, b3⟩
      refine wpAnyH_oneL (i := 9) rfl (by kernel_rfl) rfl (fun K hK => ?_)
      refine wp_append_at _ (.tmp 13) (.tmp 21) 34 rfl w.heap.size 5 i0 (.int .u8 0) 1 1 Tryd.underlying34 HI.out.1 HI.out.2.1 HI.out.2.2.1 HI.out.2.2.2 rfl (by decide) _ k _ rfl (own_ext HO.out e3) ⟨wr.heap.size, 0, none⟩ 1 1 [.int .u8 x] rfl rfl ?_ ?_ ?_ ?_ ?_ ?_
      · intro j u hu
        rw [Addr.add_lit, Nat.zero_add, b3.cell]
        simpa using hu
      · intro u hu
        obtain rfl := List.mem_singleton.1 hu
        rfl
      · unfold maxLen; omega
      · omega
      · have := hx.size; have := e3.size; omega
      intro A' c' w4 own4 hg4 hb4
      rw [← HSC.out] at own4
      have HX4 := Lib.hid ((hx.trans e3).grown hg4 (fun g hgg => (HO.out.lt g hgg).1))
      have HO4 := Lib.hid own4
      refine hK _ _ trivial ?_
      clear hK K own4 hg4 hb4 hx e3 b3
      try simp only [Act.put, List.setIfInBounds_toArray, List.set_cons_zero, List.set_cons_succ]
      refine wpAnyH_endL (by kernel_rfl) (fun K hK => ?_)
      go_wp2_with fail
      go_roundw
      case rel => exact ⟨k + 1, A', c', rfl, by go_num, by omega, HX4.out, HO4.out⟩
      case measure => simp [intOf]; omega
    · obtain rfl : k = s.size := by omega
      have hfull : (xorL s t).take s.size = xorL s t := List.take_of_length_le (by rw [xorL_len HE.out]; exact Nat.le_refl _)
      rw [hfull] at ho
      obtain ⟨g, rfl, hg1, hb, hln⟩ := own_buf ho H0.out
      have HLN := Lib.hid hln
      have HBB := Lib.hid hb
      have HFN := Lib.hid (show bs (xorL s t) = xorS s t from rfl)
      clear hb ho hfull hln
      go_wp2_with (refine wpList_frombytes (.tmp 23) 34 9 5 rfl rfl Tryd.underlying34 Tryd.underlying5 Tryd.underlying9 g s.size c _ HBB.out HLN.out rfl ?_)
      rw [HFN.out]
      go_wp2_with fail
      go_ret
      exact ⟨rfl, hx⟩
end Go.Proofs.YtokpjgpdkmimgaaDoor
