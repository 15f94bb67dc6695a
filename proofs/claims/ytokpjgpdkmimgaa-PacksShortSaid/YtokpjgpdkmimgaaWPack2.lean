/-
  press.Pack: a text, with what stands there already made short. Conditions: none.
-/
import Derived.Test.YtokpjgpdkmimgaaWPackedOf
import Derived.Test.YtokpjgpdkmimgaaE2
import Derived.Test.YtokpjgpdkmimgaaH
import Derived.Lib.AppendStr
namespace Go.Proofs.Ytokpjgpdkmimgaa
set_option linter.unusedSimpArgs false
set_option linter.unusedVariables false
open Go.RowKit

/-- The boxes that the packing works on: the text, the bytes so far, how many are to be told as they are. -/
structure PBx (w0 w : World) (gs gb gp base : Nat) (s : ByteArray) (B : Value) (p : Nat) : Prop where
  ext : Ext w0 w
  ls : w0.heap.size ≤ gs
  lb : w0.heap.size ≤ gb
  lp : w0.heap.size ≤ gp
  bs_ : gs < base
  bb : gb < base
  bp : gp < base
  nbs : gb ≠ gs
  nps : gp ≠ gs
  nbp : gb ≠ gp
  sz : base ≤ w.heap.size
  box : Blk_ w gs 9 #[.string s]
  buf : Blk_ w gb 22 #[B]
  pl : Blk_ w gp 3 #[.int .i64 (p : Int)]
theorem PBx.grown {w0 w w' : World} {gs gb gp base : Nat} {s : ByteArray} {B : Value} {p : Nat} (h : PBx w0 w gs gb gp base s B p) {row : Option Nat} (hg : w.grownBy w' row) (hr : ∀ k, row = some k → base ≤ k) : PBx w0 w' gs gb gp base s B p where
  ext := h.ext.grown hg (fun k hk => by have := hr k hk; have := h.ls; have := h.bs_; omega)
  ls := h.ls
  lb := h.lb
  lp := h.lp
  bs_ := h.bs_
  bb := h.bb
  bp := h.bp
  nbs := h.nbs
  nps := h.nps
  nbp := h.nbp
  sz := Nat.le_trans h.sz hg.size
  box := h.box.grown hg (fun k hk => by have := hr k hk; have := h.bs_; omega)
  buf := h.buf.grown hg (fun k hk => by have := hr k hk; have := h.bb; omega)
  pl := h.pl.grown hg (fun k hk => by have := hr k hk; have := h.bp; omega)
theorem PBx.setPl {w0 w : World} {gs gb gp base : Nat} {s : ByteArray} {B : Value} {p : Nat} (h : PBx w0 w gs gb gp base s B p) (q : Nat) : PBx w0 (w.setCell ⟨gp, 0, none⟩ (.int .i64 (q : Int))) gs gb gp base s B q where
  ext := h.ext.setCell h.lp _
  ls := h.ls
  lb := h.lb
  lp := h.lp
  bs_ := h.bs_
  bb := h.bb
  bp := h.bp
  nbs := h.nbs
  nps := h.nps
  nbp := h.nbp
  sz := by rw [World.size_setCell]; exact h.sz
  box := h.box.far (fun e => h.nps e.symm) _
  buf := h.buf.far (fun e => h.nbp e) _
  pl := h.pl.set 0 _
theorem PBx.setBuf {w0 w : World} {gs gb gp base : Nat} {s : ByteArray} {B : Value} {p : Nat} (h : PBx w0 w gs gb gp base s B p) (B' : Value) : PBx w0 (w.setCell ⟨gb, 0, none⟩ B') gs gb gp base s B' p where
  ext := h.ext.setCell h.lb _
  ls := h.ls
  lb := h.lb
  lp := h.lp
  bs_ := h.bs_
  bb := h.bb
  bp := h.bp
  nbs := h.nbs
  nps := h.nps
  nbp := h.nbp
  sz := by rw [World.size_setCell]; exact h.sz
  box := h.box.far (fun e => h.nbs e.symm) _
  buf := h.buf.set 0 _
  pl := h.pl.far (fun e => h.nbp e.symm) _
/-- Bytes as cells. -/
def cells (o : List UInt8) : List Value := o.map fun b => Value.int .u8 (b.toNat : Int)
theorem cells_append (a b : List UInt8) : cells (a ++ b) = cells a ++ cells b := by unfold cells; exact List.map_append
theorem strCells_eq (s : ByteArray) : Lib.strCells s = cells (lst s) := rfl
section
variable {P : Program}
/-- append(b, s...): a text's bytes onto a row of the call's own. -/
theorem wp_append_str {o : Oper} {a : Act} {w : World} {K : Act → World → Prop} {Q : Exit → Act → World → Prop} (sl x : Operand) (t u : TypeId)
    (ho : o.op = .call { callee := .builtin .append, args := #[sl, x], argTypes := #[t, u] })
    (base : Nat) (e : TypeId) (i : TypeInfo) (ht : P.underlying t = some (.slice e)) (hu : P.underlying u = some .string) (hi : P.info? e = some i) (hz : i.zero = some (.int .u8 0))
    (hsize : i.size = 1) (hby : i.bytes = 1)
    (v : Value) (n : Nat) (xs : List Value) (hs : a.eval sl = v) (hown : w.ownsRow base e 1 v n xs) (s : ByteArray) (hx : a.eval x = .string s)
    (h63 : n + s.size ≤ maxLen) (hbytes : n + s.size ≤ 140737488355328) (hbase : base ≤ w.heap.size)
    (h : ∀ v' w', w'.ownsRow base e 1 v' (n + s.size) (xs ++ cells (lst s)) → w.grownBy w' v.ownBlock → K (a.put o.dst v') w') : o.wp P a w K Q := by
  obtain ⟨v', w', hr, h2, h3, h4⟩ := Lib.run_append_own_string (P := P) w base t u o.type e i ht hu hi hz hsize hby v n xs hown s h63 hbytes hbase
  unfold Oper.wp execOp
  simp only [ho, resolve, invoke, builtin, Sem.run_bind, Sem.run_pure, Result.andThen_ok, List.map_toArray, List.map_cons, List.map_nil, hs, hx, hr]
  exact h v' w' h2 h3
end
theorem plain_cons (s : ByteArray) (a b n : Nat) (hab : a < b) (hb : b ≤ s.size) (hn : n = min (b - a) 128) : plainF (sub_ s a b) = [byte ((n : Int) - 1)] ++ lst (s.extract a (a + n)) ++ plainF (sub_ s (a + n) b) := by
  have hl : (sub_ s a b).length = b - a := length_sub_ s a b hb
  have hne : sub_ s a b ≠ [] := by intro h; rw [h] at hl; simp at hl; omega
  rw [plainF.eq_def (sub_ s a b), dif_neg hne, hl, ← hn]
  have hb' : byte ((n : Int) - 1) = UInt8.ofNat (n - 1) := by
    unfold byte; congr 1; show ((n : Int) - 1).toNat = n - 1; omega
  have ht : (sub_ s a b).take 128 = lst (s.extract a (a + n)) := by
    rw [lst_ext]
    unfold sub_
    rw [List.take_drop, List.take_take]
    by_cases h : b - a ≤ 128
    · rw [show min (a + 128) b = b by omega, show a + n = b by omega]
    · rw [show min (a + 128) b = a + 128 by omega, show n = 128 by omega]
  have hd : (sub_ s a b).drop 128 = sub_ s (a + n) b := by
    unfold sub_
    rw [List.drop_drop]
    by_cases h : b - a ≤ 128
    · rw [List.drop_of_length_le (by rw [List.length_take, length_lst]; omega), List.drop_of_length_le (by rw [List.length_take, length_lst]; omega)]
    · rw [show n = 128 by omega]
  rw [hb', ht, hd]
  simp
theorem plain_none (s : ByteArray) (a b : Nat) (h : b ≤ a) : plainF (sub_ s a b) = [] := by
  have : sub_ s a b = [] := by unfold sub_; exact List.drop_of_length_le (by rw [List.length_take]; omega)
  rw [this, plain_nil]
set_option maxRecDepth 100000 in
set_option maxHeartbeats 8000000 in
theorem flush_any (w0 w : World) (gs gb gp base : Nat) (s : ByteArray) (B : Value) (o : List UInt8) (p i : Nat) (h : PBx w0 w gs gb gp base s B p) (ho : w.ownsRow base 5 1 B o.length (cells o)) (hp : p ≤ i) (hi : i ≤ s.size) (hs : s.size ≤ 600) (hol : o.length ≤ 2000) :
    Calls Try.prog 31 #[.int .i64 i, .pointer (some ⟨gp, 0, none⟩), .pointer (some ⟨gb, 0, none⟩), .pointer (some ⟨gs, 0, none⟩)] w fun e w' => e = .returned (.tuple #[]) ∧ ∃ B', PBx w0 w' gs gb gp base s B' 0 ∧ w'.ownsRow base 5 1 B' (o ++ plainF (sub_ s (i - p) i)).length (cells (o ++ plainF (sub_ s (i - p) i))) := by
  obtain ⟨i0, hi0, hz0, hz1, hz2⟩ := info_parts info_byte
  have HI := Lib.hid (And.intro hi0 (And.intro hz0 (And.intro hz1 hz2)))
  clear hi0 hz0 hz1 hz2
  have hi6 : (i : Int) ≤ 600 := by omega
  obtain ⟨T, hT⟩ : ∃ T, T = o ++ plainF (sub_ s (i - p) i) := ⟨_, rfl⟩
  rw [← hT]
  have HT := Lib.hid hT.symm
  have HH := Lib.hid (And.intro h ho)
  have hsI : (i : Int) ≤ (s.size : Int) := by omega
  have HPI := Lib.hid (And.intro hp hol)
  have HTL := Lib.hid (show T.length ≤ 4000 by
    have h1 := plain_len2 (sub_ s (i - p) i)
    rw [length_sub_ s _ _ hi] at h1
    rw [hT, List.length_append]; omega)
  clear hT h ho hp hol
  go_enter Try.func31, Try.ntmps31
  go_wp2_with fail
  go_loopw [5] (fun _ wr => ∃ (B' : Value) (o' : List UInt8) (q : Nat), PBx w0 wr gs gb gp base s B' q ∧ wr.ownsRow base 5 1 B' o'.length (cells o') ∧ q ≤ i ∧ o' ++ plainF (sub_ s (i - q) i) = T) (fun _ wr => (intOf ((wr.cell? ⟨gp, 0, none⟩).getD undef)).toNat)
  case atStart => exact ⟨B, o, p, HH.out.1, HH.out.2, HPI.out.1, HT.out⟩
  case round =>
    clear HH HPI HT
    obtain ⟨B', o', q, hb, ho, hq, heq⟩ := hrel
    have HB := Lib.hid hb
    have HO := Lib.hid ho
    have HEQ := Lib.hid heq
    have q0 := hb.pl.cell 0
    simp at q0
    have q1 := hb.buf.cell 0
    simp at q1
    have q2 := hb.box.cell 0
    simp at q2
    have hqI : (q : Int) ≤ (i : Int) := by omega
    by_cases h0 : q = 0
    · subst h0
      have HR := Lib.hid (show o' = T by rw [← heq, plain_none s _ _ (by omega), List.append_nil])
      have q0' : wr.cell? ⟨gp, 0, none⟩ = some (.int .i64 0) := q0
      clear hb ho heq q0
      go_wp2_with fail
      go_end0
      refine ⟨rfl, B', HB.out, ?_⟩
      rw [← HR.out]; exact HO.out
    · have t1 : decide ((0 : Int) < (q : Int)) = true := by simp; omega
      have h0' : 0 < q := by omega
      obtain ⟨n, hn⟩ : ∃ n, n = min q 128 := ⟨_, rfl⟩
      have hmin1 : (if (128 : Int) < (q : Int) then (128 : Int) else (q : Int)) = (n : Int) := by split <;> omega
      have hmin2 : (if 128 < q then (128 : Int) else (q : Int)) = (n : Int) := by split <;> omega
      have HN := Lib.hid hn
      have hn1 : (1 : Int) ≤ (n : Int) := by omega
      have hn2 : (n : Int) ≤ 128 := by omega
      have hnq : (n : Int) ≤ (q : Int) := by omega
      have hpl := HEQ.out
      rw [plain_cons s (i - q) i n (by omega) hi (by omega)] at hpl
      have HPL := Lib.hid hpl
      have hz0 := hb.pl.frozen 0
      have hz1 := hb.buf.frozen 0
      have hxx1 : IntKind.i64.wrap ((n : Int) - 1) = (n : Int) - 1 := by rw [IntKind.wrap_i64]; omega
      have hxx2 : IntKind.u8.wrap ((n : Int) - 1) = (n : Int) - 1 := by rw [IntKind.wrap_u8]; omega
      have hxx3 : IntKind.i64.wrap ((i : Int) - (q : Int)) = (i : Int) - (q : Int) := by rw [IntKind.wrap_i64]; omega
      have hxx4 : IntKind.i64.wrap ((i : Int) - (q : Int) + (n : Int)) = (i : Int) - (q : Int) + (n : Int) := by rw [IntKind.wrap_i64]; omega
      have hxx5 : IntKind.i64.wrap ((q : Int) - (n : Int)) = (q : Int) - (n : Int) := by rw [IntKind.wrap_i64]; omega
      have hsl0 : (0 : Int) ≤ (i : Int) - (q : Int) := by omega
      have hsl1 : (0 : Int) ≤ (i : Int) - (q : Int) + (n : Int) := by omega
      have hsl2 : (i : Int) - (q : Int) ≤ (i : Int) - (q : Int) + (n : Int) := by omega
      have hsl3 : (i : Int) - (q : Int) + (n : Int) ≤ (s.size : Int) := by omega
      have hsl4 : ((i : Int) - (q : Int)).toNat = i - q := by omega
      have hsl5 : ((i : Int) - (q : Int) + (n : Int)).toNat = i - q + n := by omega
      have HLE := Lib.hid (show o'.length + q ≤ 4000 by
        have h1 := congrArg List.length HEQ.out
        have h2 := HTL.out
        rw [List.length_append] at h1
        have h3 : q ≤ (plainF (sub_ s (i - q) i)).length := by rw [plain_len, length_sub_ s _ _ hi]; omega
        omega)
      have HCB := Lib.hid (show cells [byte ((n : Int) - 1)] = [.int .u8 ((n : Int) - 1)] by
        unfold cells; rw [List.map_cons, List.map_nil, byte_nat_ _ (by omega) (by omega)])
      clear hb ho heq h0 hn hpl
      go_wp2_with fail
      refine wp_region_begin (S := fun W' => W'.cell? ⟨gp, 0, none⟩ = some (.int .i64 (q : Int)) ∧ W'.cell? ⟨gb, 0, none⟩ = some B' ∧ W'.cell? ⟨gs, 0, none⟩ = some (.string s)) (n := 17) (by kernel_rfl) rfl (by kernel_rfl) rfl ?_
      have hS0 : (fun W' => W'.cell? ⟨gp, 0, none⟩ = some (.int .i64 (q : Int)) ∧ W'.cell? ⟨gb, 0, none⟩ = some B' ∧ W'.cell? ⟨gs, 0, none⟩ = some (.string s)) wr.drew := ⟨q0, q1, q2⟩
      refine wpAnyH_takeL (i := 0) (v := ?_) rfl (by kernel_rfl) (fun _ _ _ h => h) rfl ?_ hS0 ?_
      rotate_left
      · intro w' hS
        try dsimp only at hS
        go_simp
        rfl
      try simp only [Act.put, List.setIfInBounds_toArray, List.set_cons_zero, List.set_cons_succ]
      refine wpAnyH_takeL (i := 1) (v := ?_) rfl (by kernel_rfl) (fun _ _ _ h => h) rfl ?_ hS0 ?_
      rotate_left
      · intro w' hS
        try dsimp only at hS
        go_simp
        rfl
      try simp only [Act.put, List.setIfInBounds_toArray, List.set_cons_zero, List.set_cons_succ]
      refine wpAnyH_takeL (i := 2) (v := ?_) rfl (by kernel_rfl) (fun _ _ _ h => h) rfl ?_ hS0 ?_
      rotate_left
      · intro w' hS
        try dsimp only at hS
        go_simp
        rfl
      try simp only [Act.put, List.setIfInBounds_toArray, List.set_cons_zero, List.set_cons_succ]
      refine wpAnyH_takeL (i := 3) (v := ?_) rfl (by kernel_rfl) (fun _ _ _ h => h) rfl ?_ hS0 ?_
      rotate_left
      · intro w' hS
        try dsimp only at hS
        go_simp
        rfl
      try simp only [Act.put, List.setIfInBounds_toArray, List.set_cons_zero, List.set_cons_succ]
      refine wpAnyH_takeL (i := 6) (v := ?_) rfl (by kernel_rfl) (fun _ _ _ h => h) rfl ?_ hS0 ?_
      rotate_left
      · intro w' hS
        try dsimp only at hS
        go_simp
        rfl
      try simp only [Act.put, List.setIfInBounds_toArray, List.set_cons_zero, List.set_cons_succ]
      refine wpAnyH_takeL (i := 7) (v := ?_) rfl (by kernel_rfl) (fun _ _ _ h => h) rfl ?_ hS0 ?_
      rotate_left
      · intro w' hS
        try dsimp only at hS
        go_simp
        rfl
      try simp only [Act.put, List.setIfInBounds_toArray, List.set_cons_zero, List.set_cons_succ]
      refine wpAnyH_takeL (i := 8) (v := ?_) rfl (by kernel_rfl) (fun _ _ _ h => h) rfl ?_ hS0 ?_
      rotate_left
      · intro w' hS
        try dsimp only at hS
        go_simp
        rfl
      try simp only [Act.put, List.setIfInBounds_toArray, List.set_cons_zero, List.set_cons_succ]
      refine wpAnyH_takeL (i := 9) (v := ?_) rfl (by kernel_rfl) (fun _ _ _ h => h) rfl ?_ hS0 ?_
      rotate_left
      · intro w' hS
        try dsimp only at hS
        go_simp
        rfl
      try simp only [Act.put, List.setIfInBounds_toArray, List.set_cons_zero, List.set_cons_succ]
      refine wpAnyH_takeL (i := 10) (v := ?_) rfl (by kernel_rfl) (fun _ _ _ h => h) rfl ?_ hS0 ?_
      rotate_left
      · intro w' hS
        try dsimp only at hS
        go_simp
        rfl
      try simp only [Act.put, List.setIfInBounds_toArray, List.set_cons_zero, List.set_cons_succ]
      refine wpAnyH_takeL (i := 11) (v := ?_) rfl (by kernel_rfl) (fun _ _ _ h => h) rfl ?_ hS0 ?_
      rotate_left
      · intro w' hS
        try dsimp only at hS
        go_simp
        rfl
      try simp only [Act.put, List.setIfInBounds_toArray, List.set_cons_zero, List.set_cons_succ]
      refine wpAnyH_takeL (i := 12) (v := ?_) rfl (by kernel_rfl) (fun _ _ _ h => h) rfl ?_ hS0 ?_
      rotate_left
      · intro w' hS
        try dsimp only at hS
        go_simp
        rfl
      try simp only [Act.put, List.setIfInBounds_toArray, List.set_cons_zero, List.set_cons_succ]
      refine wpAnyH_takeL (i := 13) (v := ?_) rfl (by kernel_rfl) (fun _ _ _ h => h) rfl ?_ hS0 ?_
      rotate_left
      · intro w' hS
        try dsimp only at hS
        go_simp
        rfl
      try simp only [Act.put, List.setIfInBounds_toArray, List.set_cons_zero, List.set_cons_succ]
      refine wpAnyH_takeL (i := 14) (v := ?_) rfl (by kernel_rfl) (fun _ _ _ h => h) rfl ?_ hS0 ?_
      rotate_left
      · intro w' hS
        try dsimp only at hS
        go_simp
        rfl
      try simp only [Act.put, List.setIfInBounds_toArray, List.set_cons_zero, List.set_cons_succ]
      refine wpAnyH_takeL (i := 15) (v := ?_) rfl (by kernel_rfl) (fun _ _ _ h => h) rfl ?_ hS0 ?_
      rotate_left
      · intro w' hS
        try dsimp only at hS
        go_simp
        rfl
      try simp only [Act.put, List.setIfInBounds_toArray, List.set_cons_zero, List.set_cons_succ]
      refine wpAnyH_oneL (i := 4) rfl (by kernel_rfl) rfl (fun K hK => ?_)
      go_wp2_with fail
      refine hK _ _ ?_ ?_
      · first | exact ⟨(Ext.refl wr).drew.alloc _ |>.cell q0, (Ext.refl wr).drew.alloc _ |>.cell q1, (Ext.refl wr).drew.alloc _ |>.cell q2⟩ | exact ⟨((Ext.refl wr).alloc _).drew.cell q0, ((Ext.refl wr).alloc _).drew.cell q1, ((Ext.refl wr).alloc _).drew.cell q2⟩
      clear hK K
      try simp only [Act.put, List.setIfInBounds_toArray, List.set_cons_zero, List.set_cons_succ]
      refine anyH_abs (fun W => Ext wr W ∧ Blk_ W wr.heap.size 5 #[.int .u8 ((n : Int) - 1)]) ⟨by first | exact (Ext.refl _).alloc _ | exact (Ext.refl _).drew.alloc _, by first | exact Blk_.new _ _ _ | exact (Blk_.new _ _ _).drew⟩ ?_
      rintro W3 ⟨e3, b3⟩
      refine wpAnyH_oneL (i := 5) rfl (by kernel_rfl) rfl (fun K hK => ?_)
      refine wp_append_at _ (.tmp 10) (.tmp 14) 22 rfl base 5 i0 (.int .u8 0) 1 1 Try.underlying22 HI.out.1 HI.out.2.1 HI.out.2.2.1 HI.out.2.2.2 rfl (by decide) _ o'.length _ rfl (own_ext HO.out e3) ⟨wr.heap.size, 0, none⟩ 1 1 [.int .u8 ((n : Int) - 1)] rfl rfl ?_ ?_ ?_ ?_ ?_ ?_
      · intro j u hu
        rw [Addr.add_lit, Nat.zero_add, b3.cell]
        simpa using hu
      · intro u hu
        obtain rfl := List.mem_singleton.1 hu
        rfl
      · have := HLE.out; unfold maxLen; omega
      · have := HLE.out; omega
      · have := HB.out.sz; have := e3.size; omega
      intro A4 c4 w4 own4 hg4 hb4
      have hb4' := (HB.out.grown (e3.by_ none) (fun k hk => by cases hk)).grown hg4 (fun k hk => (HO.out.lt k hk).1)
      have own4' : w4.ownsRow base 5 1 (.slice A4 (o'.length + 1) c4) (o' ++ [byte ((n : Int) - 1)]).length (cells (o' ++ [byte ((n : Int) - 1)])) := by
        rw [cells_append, List.length_append, List.length_singleton]
        rw [HCB.out]
        exact own4
      have HB4 := Lib.hid hb4'
      have HO4 := Lib.hid own4'
      refine hK _ _ ⟨by have := hb4'.pl.cell 0; simpa using this, by have := hb4'.buf.cell 0; simpa using this, by have := hb4'.box.cell 0; simpa using this⟩ ?_
      clear hK K own4 hg4 hb4 hb4' own4' e3 b3
      try simp only [Act.put, List.setIfInBounds_toArray, List.set_cons_zero, List.set_cons_succ]
      refine wpAnyH_oneL (i := 16) rfl (by kernel_rfl) rfl (fun K hK => ?_)
      refine wp_append_str (.tmp 15) (.tmp 25) 22 9 rfl base 5 i0 Try.underlying22 Try.underlying9 HI.out.1 HI.out.2.1 HI.out.2.2.1 HI.out.2.2.2 _ _ _ rfl HO4.out (s.extract (i - q) (i - q + n)) rfl ?_ ?_ ?_ ?_
      · have := HLE.out; have := HN.out; rw [ByteArray.size_extract, List.length_append, List.length_singleton]; unfold maxLen; omega
      · have := HLE.out; have := HN.out; rw [ByteArray.size_extract, List.length_append, List.length_singleton]; omega
      · exact HB4.out.sz
      intro B5 w5 own5 hg5
      obtain ⟨A5, c5, rfl⟩ := own_slice own5
      have hb5 := HB4.out.grown hg5 (fun k hk => (HO4.out.lt k hk).1)
      have HO5 := Lib.hid (show w5.ownsRow base 5 1 _ (o' ++ [byte ((n : Int) - 1)] ++ lst (s.extract (i - q) (i - q + n))).length (cells (o' ++ [byte ((n : Int) - 1)] ++ lst (s.extract (i - q) (i - q + n)))) by
        rw [show (o' ++ [byte ((n : Int) - 1)] ++ lst (s.extract (i - q) (i - q + n))).length = (o' ++ [byte ((n : Int) - 1)]).length + (s.extract (i - q) (i - q + n)).size by rw [List.length_append, length_lst], cells_append (o' ++ _)]; exact own5)
      have HB5 := Lib.hid hb5
      clear own5 hg5
      generalize (o' ++ [byte ((n : Int) - 1)]).length + (s.extract (i - q) (i - q + n)).size = m5 at *
      have p0 := hb5.pl.cell 0
      simp at p0
      have p1 := hb5.buf.cell 0
      simp at p1
      have p2 := hb5.box.cell 0
      simp at p2
      refine hK _ _ ⟨p0, p1, p2⟩ ?_
      clear hK K
      try simp only [Act.put, List.setIfInBounds_toArray, List.set_cons_zero, List.set_cons_succ]
      refine wpAnyH_endL (by kernel_rfl) (fun K hK => ?_)
      have x0 := hb5.pl.frozen 0
      have x1 := hb5.buf.frozen 0
      have ne1 : ¬ (gb = gp) := hb5.nbp
      have ne2 : ¬ (gp = gb) := fun e => hb5.nbp e.symm
      clear hb5
      go_wp2_with fail
      go_roundw
      case rel =>
        have hqn : (q : Int) - (n : Int) = ((q - n : Nat) : Int) := by have := HN.out; omega
        rw [hqn]
        refine ⟨_, o' ++ [byte ((n : Int) - 1)] ++ lst (s.extract (i - q) (i - q + n)), q - n, (HB5.out.setBuf _).setPl (q - n), ?_, by omega, ?_⟩
        · refine ownsRow_setCell_other (ownsRow_setCell_other HO5.out ?_ _) ?_ _
          · intro e; have h1 : base ≤ gb := (HO5.out.lt _ e).1; have := HB5.out.bb; omega
          · intro e; have h1 : base ≤ gp := (HO5.out.lt _ e).1; have := HB5.out.bp; omega
        · rw [show i - (q - n) = i - q + n by have := HN.out; omega]
          have := HPL.out
          simpa [List.append_assoc] using this
      case measure =>
        have y0 := ((HB5.out.setBuf (.slice A5 m5 c5)).pl.set 0 (.int .i64 ((q : Int) - (n : Int)))).cell 0
        simp at y0
        rw [y0, q0]
        simp [intOf]; omega
end Go.Proofs.Ytokpjgpdkmimgaa
