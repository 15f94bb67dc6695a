/-
  press.Pack: a text, with what stands there already made short. Conditions: none.
-/
import Derived.Test.YtgjijcgkmofaaaaGreatDoorK5
import Derived.Lib.AppendStr
import Derived.JoinedOf
namespace Go.Proofs.YtgjijcgkmofaaaaGreatDoor
set_option linter.unusedSimpArgs false
set_option linter.unusedVariables false
open Go.RowKit

/-- The boxes that the packing works on: the text, the bytes so far, how many are to be told as they are. -/
structure PBx (w0 w : World) (gs gb gp base : Nat) (s : ByteArray) (B : Value) (p : Nat) : Prop where
  ext : Ext w0 w
  ls : w0.heap.size ≤ gs
  lb : w0.heap.size ≤ gb
  lp : w0.heap.size ≤ gp
  bs_ : gs < base
  bb : gb < base
  bp : gp < base
  nbs : gb ≠ gs
  nps : gp ≠ gs
  nbp : gb ≠ gp
  sz : base ≤ w.heap.size
  box : Blk_ w gs 9 #[.string s]
  buf : Blk_ w gb 95 #[B]
  pl : Blk_ w gp 3 #[.int .i64 (p : Int)]
theorem PBx.grown {w0 w w' : World} {gs gb gp base : Nat} {s : ByteArray} {B : Value} {p : Nat} (h : PBx w0 w gs gb gp base s B p) {row : Option Nat} (hg : w.grownBy w' row) (hr : ∀ k, row = some k → base ≤ k) : PBx w0 w' gs gb gp base s B p where
  ext := h.ext.grown hg (fun k hk => by have := hr k hk; have := h.ls; have := h.bs_; omega)
  ls := h.ls
  lb := h.lb
  lp := h.lp
  bs_ := h.bs_
  bb := h.bb
  bp := h.bp
  nbs := h.nbs
  nps := h.nps
  nbp := h.nbp
  sz := Nat.le_trans h.sz hg.size
  box := h.box.grown hg (fun k hk => by have := hr k hk; have := h.bs_; omega)
  buf := h.buf.grown hg (fun k hk => by have := hr k hk; have := h.bb; omega)
  pl := h.pl.grown hg (fun k hk => by have := hr k hk; have := h.bp; omega)
theorem PBx.setPl {w0 w : World} {gs gb gp base : Nat} {s : ByteArray} {B : Value} {p : Nat} (h : PBx w0 w gs gb gp base s B p) (q : Nat) : PBx w0 (w.setCell ⟨gp, 0, none⟩ (.int .i64 (q : Int))) gs gb gp base s B q where
  ext := h.ext.setCell h.lp _
  ls := h.ls
  lb := h.lb
  lp := h.lp
  bs_ := h.bs_
  bb := h.bb
  bp := h.bp
  nbs := h.nbs
  nps := h.nps
  nbp := h.nbp
  sz := by rw [World.size_setCell]; exact h.sz
  box := h.box.far (fun e => h.nps e.symm) _
  buf := h.buf.far (fun e => h.nbp e) _
  pl := h.pl.set 0 _
theorem PBx.setBuf {w0 w : World} {gs gb gp base : Nat} {s : ByteArray} {B : Value} {p : Nat} (h : PBx w0 w gs gb gp base s B p) (B' : Value) : PBx w0 (w.setCell ⟨gb, 0, none⟩ B') gs gb gp base s B' p where
  ext := h.ext.setCell h.lb _
  ls := h.ls
  lb := h.lb
  lp := h.lp
  bs_ := h.bs_
  bb := h.bb
  bp := h.bp
  nbs := h.nbs
  nps := h.nps
  nbp := h.nbp
  sz := by rw [World.size_setCell]; exact h.sz
  box := h.box.far (fun e => h.nbs e.symm) _
  buf := h.buf.set 0 _
  pl := h.pl.far (fun e => h.nbp e.symm) _
/-- Bytes as cells. -/
def cells (o : List UInt8) : List Value := o.map fun b => Value.int .u8 (b.toNat : Int)
theorem cells_append (a b : List UInt8) : cells (a ++ b) = cells a ++ cells b := by unfold cells; exact List.map_append
theorem strCells_eq (s : ByteArray) : Lib.strCells s = cells (lst s) := rfl
section
variable {P : Program}
/-- append(b, s...): a text's bytes onto a row of the call's own. -/
theorem wp_append_str {o : Oper} {a : Act} {w : World} {K : Act → World → Prop} {Q : Exit → Act → World → Prop} (sl x : Operand) (t u : TypeId)
    (ho : o.op = .call { callee := .builtin .append, args := #[sl, x], argTypes := #[t, u] })
    (base : Nat) (e : TypeId) (i : TypeInfo) (ht : P.underlying t = some (.slice e)) (hu : P.underlying u = some .string) (hi : P.info? e = some i) (hz : i.zero = some (.int .u8 0))
    (hsize : i.size = 1) (hby : i.bytes = 1)
    (v : Value) (n : Nat) (xs : List Value) (hs : a.eval sl = v) (hown : w.ownsRow base e 1 v n xs) (s : ByteArray) (hx : a.eval x = .string s)
    (h63 : n + s.size ≤ maxLen) (hbytes : n + s.size ≤ 140737488355328) (hbase : base ≤ w.heap.size)
    (h : ∀ v' w', w'.ownsRow base e 1 v' (n + s.size) (xs ++ cells (lst s)) → w.grownBy w' v.ownBlock → K (a.put o.dst v') w') : o.wp P a w K Q := by
  obtain ⟨v', w', hr, h2, h3, h4⟩ := Lib.run_append_own_string (P := P) w base t u o.type e i ht hu hi hz hsize hby v n xs hown s h63 hbytes hbase
  unfold Oper.wp execOp
  simp only [ho, resolve, invoke, builtin, Sem.run_bind, Sem.run_pure, Result.andThen_ok, List.map_toArray, List.map_cons, List.map_nil, hs, hx, hr]
  exact h v' w' h2 h3
end
theorem plain_cons (s : ByteArray) (a b n : Nat) (hab : a < b) (hb : b ≤ s.size) (hn : n = min (b - a) 128) : plainF (sub_ s a b) = [byte ((n : Int) - 1)] ++ lst (s.extract a (a + n)) ++ plainF (sub_ s (a + n) b) := by
  have hl : (sub_ s a b).length = b - a := length_sub_ s a b hb
  have hne : sub_ s a b ≠ [] := by intro h; rw [h] at hl; simp at hl; omega
  rw [plainF.eq_def (sub_ s a b), dif_neg hne, hl, ← hn]
  have hb' : byte ((n : Int) - 1) = UInt8.ofNat (n - 1) := by
    unfold byte; congr 1; show ((n : Int) - 1).toNat = n - 1; omega
  have ht : (sub_ s a b).take 128 = lst (s.extract a (a + n)) := by
    rw [lst_ext]
    unfold sub_
    rw [List.take_drop, List.take_take]
    by_cases h : b - a ≤ 128
    · rw [show min (a + 128) b = b by omega, show a + n = b by omega]
    · rw [show min (a + 128) b = a + 128 by omega, show n = 128 by omega]
  have hd : (sub_ s a b).drop 128 = sub_ s (a + n) b := by
    unfold sub_
    rw [List.drop_drop]
    by_cases h : b - a ≤ 128
    · rw [List.drop_of_length_le (by rw [List.length_take, length_lst]; omega), List.drop_of_length_le (by rw [List.length_take, length_lst]; omega)]
    · rw [show n = 128 by omega]
  rw [hb', ht, hd]
  simp
theorem plain_none (s : ByteArray) (a b : Nat) (h : b ≤ a) : plainF (sub_ s a b) = [] := by
  have : sub_ s a b = [] := by unfold sub_; exact List.drop_of_length_le (by rw [List.length_take]; omega)
  rw [this, plain_nil]
set_option maxRecDepth 100000 in
set_option maxHeartbeats 8000000 in
theorem flush_any (w0 w : World) (gs gb gp base : Nat) (s : ByteArray) (B : Value) (o : List UInt8) (p i : Nat) (h : PBx w0 w gs gb gp base s B p) (ho : w.ownsRow base 5 1 B o.length (cells o)) (hp : p ≤ i) (hi : i ≤ s.size) (hs : s.size ≤ 600) (hol : o.length ≤ 2000) :
    Calls Tryz.prog 82 #[.int .i64 i, .pointer (some ⟨gp, 0, none⟩), .pointer (some ⟨gb, 0, none⟩), .pointer (some ⟨gs, 0, none⟩)] w fun e w' => e = .returned (.tuple #[]) ∧ ∃ B', PBx w0 w' gs gb gp base s B' 0 ∧ w'.ownsRow base 5 1 B' (o ++ plainF (sub_ s (i - p) i)).length (cells (o ++ plainF (sub_ s (i - p) i))) := by
  obtain ⟨i0, hi0, hz0, hz1, hz2⟩ := info_parts info_byte
  have HI := Lib.hid (And.intro hi0 (And.intro hz0 (And.intro hz1 hz2)))
  clear hi0 hz0 hz1 hz2
  have hi6 : (i : Int) ≤ 600 := by omega
  obtain ⟨T, hT⟩ : ∃ T, T = o ++ plainF (sub_ s (i - p) i) := ⟨_, rfl⟩
  rw [← hT]
  have HT := Lib.hid hT.symm
  have HH := Lib.hid (And.intro h ho)
  have hsI : (i : Int) ≤ (s.size : Int) := by omega
  have HPI := Lib.hid (And.intro hp hol)
  have HTL := Lib.hid (show T.length ≤ 4000 by
    have h1 := plain_len2 (sub_ s (i - p) i)
    rw [length_sub_ s _ _ hi] at h1
    rw [hT, List.length_append]; omega)
  clear hT h ho hp hol
  go_enter Tryz.func82, Tryz.ntmps82
  go_wp2_with fail
  go_loopw [5] (fun _ wr => ∃ (B' : Value) (o' : List UInt8) (q : Nat), PBx w0 wr gs gb gp base s B' q ∧ wr.ownsRow base 5 1 B' o'.length (cells o') ∧ q ≤ i ∧ o' ++ plainF (sub_ s (i - q) i) = T) (fun _ wr => (intOf ((wr.cell? ⟨gp, 0, none⟩).getD undef)).toNat)
  case atStart => exact ⟨B, o, p, HH.out.1, HH.out.2, HPI.out.1, HT.out⟩
  case round =>
    clear HH HPI HT
    obtain ⟨B', o', q, hb, ho, hq, heq⟩ := hrel
    have HB := Lib.hid hb
    have HO := Lib.hid ho
    have HEQ := Lib.hid heq
    have q0 := hb.pl.cell 0
    simp at q0
    have q1 := hb.buf.cell 0
    simp at q1
    have q2 := hb.box.cell 0
    simp at q2
    have hqI : (q : Int) ≤ (i : Int) := by omega
    by_cases h0 : q = 0
    · subst h0
      have HR := Lib.hid (show o' = T by rw [← heq, plain_none s _ _ (by omega), List.append_nil])
      have q0' : wr.cell? ⟨gp, 0, none⟩ = some (.int .i64 0) := q0
      clear hb ho heq q0
      go_wp2_with fail
      go_end0
      refine ⟨rfl, B', HB.out, ?_⟩
      rw [← HR.out]; exact HO.out
    · have t1 : decide ((0 : Int) < (q : Int)) = true := by simp; omega
      have h0' : 0 < q := by omega
      obtain ⟨n, hn⟩ : ∃ n, n = min q 128 := ⟨_, rfl⟩
      have hmin1 : (if (128 : Int) < (q : Int) then (128 : Int) else (q : Int)) = (n : Int) := by split <;> omega
      have hmin2 : (if 128 < q then (128 : Int) else (q : Int)) = (n : Int) := by split <;> omega
      have HN := Lib.hid hn
      have hn1 : (1 : Int) ≤ (n : Int) := by omega
      have hn2 : (n : Int) ≤ 128 := by omega
      have hnq : (n : Int) ≤ (q : Int) := by omega
      have hpl := HEQ.out
      rw [plain_cons s (i - q) i n (by omega) hi (by omega)] at hpl
      have HPL := Lib.hid hpl
      have hz0 := hb.pl.frozen 0
      have hz1 := hb.buf.frozen 0
      have hxx1 : IntKind.i64.wrap ((n : Int) - 1) = (n : Int) - 1 := by rw [IntKind.wrap_i64]; omega
      have hxx2 : IntKind.u8.wrap ((n : Int) - 1) = (n : Int) - 1 := by rw [IntKind.wrap_u8]; omega
      have hxx3 : IntKind.i64.wrap ((i : Int) - (q : Int)) = (i : Int) - (q : Int) := by rw [IntKind.wrap_i64]; omega
      have hxx4 : IntKind.i64.wrap ((i : Int) - (q : Int) + (n : Int)) = (i : Int) - (q : Int) + (n : Int) := by rw [IntKind.wrap_i64]; omega
      have hxx5 : IntKind.i64.wrap ((q : Int) - (n : Int)) = (q : Int) - (n : Int) := by rw [IntKind.wrap_i64]; omega
      have hsl0 : (0 : Int) ≤ (i : Int) - (q : Int) := by omega
      have hsl1 : (0 : Int) ≤ (i : Int) - (q : Int) + (n : Int) := by omega
      have hsl2 : (i : Int) - (q : Int) ≤ (i : Int) - (q : Int) + (n : Int) := by omega
      have hsl3 : (i : Int) - (q : Int) + (n : Int) ≤ (s.size : Int) := by omega
      have hsl4 : ((i : Int) - (q : Int)).toNat = i - q := by omega
      have hsl5 : ((i : Int) - (q : Int) + (n : Int)).toNat = i - q + n := by omega
      have HLE := Lib.hid (show o'.length + q ≤ 4000 by
        have h1 := congrArg List.length HEQ.out
        have h2 := HTL.out
        rw [List.length_append] at h1
        have h3 : q ≤ (plainF (sub_ s (i - q) i)).length := by rw [plain_len, length_sub_ s _ _ hi]; omega
        omega)
      have HCB := Lib.hid (show cells [byte ((n : Int) - 1)] = [.int .u8 ((n : Int) - 1)] by
        unfold cells; rw [List.map_cons, List.map_nil, byte_nat_ _ (by omega) (by omega)])
      clear hb ho heq h0 hn hpl
      go_wp2_with fail
      refine wp_region_begin (S := fun W' => W'.cell? ⟨gp, 0, none⟩ = some (.int .i64 (q : Int)) ∧ W'.cell? ⟨gb, 0, none⟩ = some B' ∧ W'.cell? ⟨gs, 0, none⟩ = some (.string s)) (n := 17) (by kernel_rfl) rfl (by kernel_rfl) rfl ?_
      have hS0 : (fun W' => W'.cell? ⟨gp, 0, none⟩ = some (.int .i64 (q : Int)) ∧ W'.cell? ⟨gb, 0, none⟩ = some B' ∧ W'.cell? ⟨gs, 0, none⟩ = some (.string s)) wr.drew := ⟨q0, q1, q2⟩
      refine wpAnyH_takeL (i := 0) (v := ?_) rfl (by kernel_rfl) (fun _ _ _ h => h) rfl ?_ hS0 ?_
      rotate_left
      · intro w' hS
        try dsimp only at hS
        go_simp
        rfl
      try simp only [Act.put, List.setIfInBounds_toArray, List.set_cons_zero, List.set_cons_succ]
      refine wpAnyH_takeL (i := 1) (v := ?_) rfl (by kernel_rfl) (fun _ _ _ h => h) rfl ?_ hS0 ?_
      rotate_left
      · intro w' hS
        try dsimp only at hS
        go_simp
        rfl
      try simp only [Act.put, List.setIfInBounds_toArray, List.set_cons_zero, List.set_cons_succ]
      refine wpAnyH_takeL (i := 2) (v := ?_) rfl (by kernel_rfl) (fun _ _ _ h => h) rfl ?_ hS0 ?_
      rotate_left
      · intro w' hS
        try dsimp only at hS
        go_simp
        rfl
      try simp only [Act.put, List.setIfInBounds_toArray, List.set_cons_zero, List.set_cons_succ]
      refine wpAnyH_takeL (i := 3) (v := ?_) rfl (by kernel_rfl) (fun _ _ _ h => h) rfl ?_ hS0 ?_
      rotate_left
      · intro w' hS
        try dsimp only at hS
        go_simp
        rfl
      try simp only [Act.put, List.setIfInBounds_toArray, List.set_cons_zero, List.set_cons_succ]
      refine wpAnyH_takeL (i := 6) (v := ?_) rfl (by kernel_rfl) (fun _ _ _ h => h) rfl ?_ hS0 ?_
      rotate_left
      · intro w' hS
        try dsimp only at hS
        go_simp
        rfl
      try simp only [Act.put, List.setIfInBounds_toArray, List.set_cons_zero, List.set_cons_succ]
      refine wpAnyH_takeL (i := 7) (v := ?_) rfl (by kernel_rfl) (fun _ _ _ h => h) rfl ?_ hS0 ?_
      rotate_left
      · intro w' hS
        try dsimp only at hS
        go_simp
        rfl
      try simp only [Act.put, List.setIfInBounds_toArray, List.set_cons_zero, List.set_cons_succ]
      refine wpAnyH_takeL (i := 8) (v := ?_) rfl (by kernel_rfl) (fun _ _ _ h => h) rfl ?_ hS0 ?_
      rotate_left
      · intro w' hS
        try dsimp only at hS
        go_simp
        rfl
      try simp only [Act.put, List.setIfInBounds_toArray, List.set_cons_zero, List.set_cons_succ]
      refine wpAnyH_takeL (i := 9) (v := ?_) rfl (by kernel_rfl) (fun _ _ _ h => h) rfl ?_ hS0 ?_
      rotate_left
      · intro w' hS
        try dsimp only at hS
        go_simp
        rfl
      try simp only [Act.put, List.setIfInBounds_toArray, List.set_cons_zero, List.set_cons_succ]
      refine wpAnyH_takeL (i := 10) (v := ?_) rfl (by kernel_rfl) (fun _ _ _ h => h) rfl ?_ hS0 ?_
      rotate_left
      · intro w' hS
        try dsimp only at hS
        go_simp
        rfl
      try simp only [Act.put, List.setIfInBounds_toArray, List.set_cons_zero, List.set_cons_succ]
      refine wpAnyH_takeL (i := 11) (v := ?_) rfl (by kernel_rfl) (fun _ _ _ h => h) rfl ?_ hS0 ?_
      rotate_left
      · intro w' hS
        try dsimp only at hS
        go_simp
        rfl
      try simp only [Act.put, List.setIfInBounds_toArray, List.set_cons_zero, List.set_cons_succ]
      refine wpAnyH_takeL (i := 12) (v := ?_) rfl (by kernel_rfl) (fun _ _ _ h => h) rfl ?_ hS0 ?_
      rotate_left
      · intro w' hS
        try dsimp only at hS
        go_simp
        rfl
      try simp only [Act.put, List.setIfInBounds_toArray, List.set_cons_zero, List.set_cons_succ]
      refine wpAnyH_takeL (i := 13) (v := ?_) rfl (by kernel_rfl) (fun _ _ _ h => h) rfl ?_ hS0 ?_
      rotate_left
      · intro w' hS
        try dsimp only at hS
        go_simp
        rfl
      try simp only [Act.put, List.setIfInBounds_toArray, List.set_cons_zero, List.set_cons_succ]
      refine wpAnyH_takeL (i := 14) (v := ?_) rfl (by kernel_rfl) (fun _ _ _ h => h) rfl ?_ hS0 ?_
      rotate_left
      · intro w' hS
        try dsimp only at hS
        go_simp
        rfl
      try simp only [Act.put, List.setIfInBounds_toArray, List.set_cons_zero, List.set_cons_succ]
      refine wpAnyH_takeL (i := 15) (v := ?_) rfl (by kernel_rfl) (fun _ _ _ h => h) rfl ?_ hS0 ?_
      rotate_left
      · intro w' hS
        try dsimp only at hS
        go_simp
        rfl
      try simp only [Act.put, List.setIfInBounds_toArray, List.set_cons_zero, List.set_cons_succ]
      refine wpAnyH_oneL (i := 4) rfl (by kernel_rfl) rfl (fun K hK => ?_)
      go_wp2_with fail
      refine hK _ _ ?_ ?_
      · first | exact ⟨(Ext.refl wr).drew.alloc _ |>.cell q0, (Ext.refl wr).drew.alloc _ |>.cell q1, (Ext.refl wr).drew.alloc _ |>.cell q2⟩ | exact ⟨((Ext.refl wr).alloc _).drew.cell q0, ((Ext.refl wr).alloc _).drew.cell q1, ((Ext.refl wr).alloc _).drew.cell q2⟩
      clear hK K
      try simp only [Act.put, List.setIfInBounds_toArray, List.set_cons_zero, List.set_cons_succ]
      refine anyH_abs (fun W => Ext wr W ∧ Blk_ W wr.heap.size 5 #[.int .u8 ((n : Int) - 1)]) ⟨by first | exact (Ext.refl _).alloc _ | exact (Ext.refl _).drew.alloc _, by first | exact Blk_.new _ _ _ | exact (Blk_.new _ _ _).drew⟩ ?_
      rintro W3 ⟨e3, b3⟩
      refine wpAnyH_oneL (i := 5) rfl (by kernel_rfl) rfl (fun K hK => ?_)
      refine wp_append_at _ (.tmp 10) (.tmp 14) 95 rfl base 5 i0 (.int .u8 0) 1 1 Tryz.underlying95 HI.out.1 HI.out.2.1 HI.out.2.2.1 HI.out.2.2.2 rfl (by decide) _ o'.length _ rfl (own_ext HO.out e3) ⟨wr.heap.size, 0, none⟩ 1 1 [.int .u8 ((n : Int) - 1)] rfl rfl ?_ ?_ ?_ ?_ ?_ ?_
      · intro j u hu
        rw [Addr.add_lit, Nat.zero_add, b3.cell]
        simpa using hu
      · intro u hu
        obtain rfl := List.mem_singleton.1 hu
        rfl
      · have := HLE.out; unfold maxLen; omega
      · have := HLE.out; omega
      · have := HB.out.sz; have := e3.size; omega
      intro A4 c4 w4 own4 hg4 hb4
      have hb4' := (HB.out.grown (e3.by_ none) (fun k hk => by cases hk)).grown hg4 (fun k hk => (HO.out.lt k hk).1)
      have own4' : w4.ownsRow base 5 1 (.slice A4 (o'.length + 1) c4) (o' ++ [byte ((n : Int) - 1)]).length (cells (o' ++ [byte ((n : Int) - 1)])) := by
        rw [cells_append, List.length_append, List.length_singleton]
        rw [HCB.out]
        exact own4
      have HB4 := Lib.hid hb4'
      have HO4 := Lib.hid own4'
      refine hK _ _ ⟨by have := hb4'.pl.cell 0; simpa using this, by have := hb4'.buf.cell 0; simpa using this, by have := hb4'.box.cell 0; simpa using this⟩ ?_
      clear hK K own4 hg4 hb4 hb4' own4' e3 b3
      try simp only [Act.put, List.setIfInBounds_toArray, List.set_cons_zero, List.set_cons_succ]
      refine wpAnyH_oneL (i := 16) rfl (by kernel_rfl) rfl (fun K hK => ?_)
      refine wp_append_str (.tmp 15) (.tmp 25) 95 9 rfl base 5 i0 Tryz.underlying95 Tryz.underlying9 HI.out.1 HI.out.2.1 HI.out.2.2.1 HI.out.2.2.2 _ _ _ rfl HO4.out (s.extract (i - q) (i - q + n)) rfl ?_ ?_ ?_ ?_
      · have := HLE.out; have := HN.out; rw [ByteArray.size_extract, List.length_append, List.length_singleton]; unfold maxLen; omega
      · have := HLE.out; have := HN.out; rw [ByteArray.size_extract, List.length_append, List.length_singleton]; omega
      · exact HB4.out.sz
      intro B5 w5 own5 hg5
      obtain ⟨A5, c5, rfl⟩ := own_slice own5
      have hb5 := HB4.out.grown hg5 (fun k hk => (HO4.out.lt k hk).1)
      have HO5 := Lib.hid (show w5.ownsRow base 5 1 _ (o' ++ [byte ((n : Int) - 1)] ++ lst (s.extract (i - q) (i - q + n))).length (cells (o' ++ [byte ((n : Int) - 1)] ++ lst (s.extract (i - q) (i - q + n)))) by
        rw [show (o' ++ [byte ((n : Int) - 1)] ++ lst (s.extract (i - q) (i - q + n))).length = (o' ++ [byte ((n : Int) - 1)]).length + (s.extract (i - q) (i - q + n)).size by rw [List.length_append, length_lst], cells_append (o' ++ _)]; exact own5)
      have HB5 := Lib.hid hb5
      clear own5 hg5
      generalize (o' ++ [byte ((n : Int) - 1)]).length + (s.extract (i - q) (i - q + n)).size = m5 at *
      have p0 := hb5.pl.cell 0
      simp at p0
      have p1 := hb5.buf.cell 0
      simp at p1
      have p2 := hb5.box.cell 0
      simp at p2
      refine hK _ _ ⟨p0, p1, p2⟩ ?_
      clear hK K
      try simp only [Act.put, List.setIfInBounds_toArray, List.set_cons_zero, List.set_cons_succ]
      refine wpAnyH_endL (by kernel_rfl) (fun K hK => ?_)
      have x0 := hb5.pl.frozen 0
      have x1 := hb5.buf.frozen 0
      have ne1 : ¬ (gb = gp) := hb5.nbp
      have ne2 : ¬ (gp = gb) := fun e => hb5.nbp e.symm
      clear hb5
      go_wp2_with fail
      go_roundw
      case rel =>
        have hqn : (q : Int) - (n : Int) = ((q - n : Nat) : Int) := by have := HN.out; omega
        rw [hqn]
        refine ⟨_, o' ++ [byte ((n : Int) - 1)] ++ lst (s.extract (i - q) (i - q + n)), q - n, (HB5.out.setBuf _).setPl (q - n), ?_, by omega, ?_⟩
        · refine ownsRow_setCell_other (ownsRow_setCell_other HO5.out ?_ _) ?_ _
          · intro e; have h1 : base ≤ gb := (HO5.out.lt _ e).1; have := HB5.out.bb; omega
          · intro e; have h1 : base ≤ gp := (HO5.out.lt _ e).1; have := HB5.out.bp; omega
        · rw [show i - (q - n) = i - q + n by have := HN.out; omega]
          have := HPL.out
          simpa [List.append_assoc] using this
      case measure =>
        have y0 := ((HB5.out.setBuf (.slice A5 m5 c5)).pl.set 0 (.int .i64 ((q : Int) - (n : Int)))).cell 0
        simp at y0
        rw [y0, q0]
        simp [intOf]; omega
end Go.Proofs.YtgjijcgkmofaaaaGreatDoor

/-
  press.Pack: a text, with what stands there already made short. Conditions: none.
-/
namespace Go.Proofs.YtgjijcgkmofaaaaGreatDoor
set_option linter.unusedSimpArgs false
set_option linter.unusedVariables false
open Go.RowKit

theorem cells_flat (l : List UInt8) : cells l = l.flatMap encByte := by
  unfold cells
  induction l with
  | nil => rfl
  | cons a l ih => rw [List.map_cons, List.flatMap_cons, ih]; rfl
section
variable {P : Program} {Q : Exit → Act → World → Prop}
/-- No bytes are made a text. -/
theorem wpList_fromnil {ops : Array Oper} {rest : List Oper} {o : Oper} {a : Act} {w : World} (x : Operand) (src dst e : TypeId) (ho : o.op = .convert src dst x) (hgd : o.guard = none) (hs : P.underlying src = some (.slice e)) (he : P.underlying e = some (.int .u8)) (hd : P.underlying dst = some .string)
    (hx : a.eval x = .slice none 0 0) (h : wpList P ops Q rest (a.put o.dst (.string (bs []))) w) : wpList P ops Q (o :: rest) a w := by
  refine wpList_plain hgd fun K hK => ?_
  have hr : (convert src dst (.slice none 0 0)).run P w = .ok (.string (bs [])) w := by
    rw [run_convert_bytes_string w src dst e none 0 0 hs he hd]
    rfl
  unfold Oper.wp execOp
  simp only [ho, Sem.run_bind, hx, hr, Result.andThen_ok, Sem.run_pure, Oper.upon]
  exact hK _ _ h
end
theorem PBx.init (w : World) (s : ByteArray) : PBx w (((w.alloc (.cells #[.string s] 9)).alloc (.cells #[.slice none 0 0] 95)).alloc (.cells #[.int .i64 0] 3))
    w.heap.size (w.heap.size + 1) (w.heap.size + 1 + 1) (w.heap.size + 1 + 1 + 1) s (.slice none 0 0) 0 where
  ext := (((Ext.refl w).alloc _).alloc _).alloc _
  ls := by omega
  lb := by omega
  lp := by omega
  bs_ := by omega
  bb := by omega
  bp := by omega
  nbs := by omega
  nps := by omega
  nbp := by omega
  sz := by rw [World.size_alloc, World.size_alloc, World.size_alloc]; omega
  box := ((Blk_.new w _ _).alloc _).alloc _
  buf := (Blk_.new1 w _ _ _).alloc _
  pl := Blk_.new2 w _ _ _ _
theorem piece_pair (s : ByteArray) (i : Nat) : pieceF s i 1 0 0 = ((pieceF s i 1 0 0).1, (pieceF s i 1 0 0).2) := rfl
theorem pieceF_back (s : ByteArray) (i d best back : Nat) (h : back ≤ 255) : (pieceF s i d best back).2 ≤ 255 := by
  induction hm : 256 - d generalizing d best back with
  | zero => rw [pieceF, if_neg (by omega)]; exact h
  | succ m ih =>
    rw [pieceF]
    split
    · rename_i hc
      split
      · exact ih _ _ _ hc.1 (by omega)
      · exact ih _ _ _ h (by omega)
    · exact h

set_option maxRecDepth 100000 in
set_option maxHeartbeats 8000000 in
theorem pack_any (s : ByteArray) (w : World) :
    Calls Tryz.prog 49 #[.string s] w fun e w' => e = .returned (.tuple #[.string (packS s).1, .int .i64 (packS s).2]) ∧ Ext w w' := by
  by_cases hs : 600 < s.size
  · have hf : packS s = (.empty, 1) := by unfold packS; rw [if_pos hs]
    rw [hf]
    clear hf
    go_enter Tryz.func49, Tryz.ntmps49
    go_wp2_with fail
    go_ret2
    exact ⟨rfl, (Ext.refl _).alloc _⟩
  · have hf : packS s = (bs (packF s [] 0 0), 0) := by unfold packS; rw [if_neg hs]
    rw [hf]
    have hs' : s.size ≤ 600 := by omega
    have hsI : (s.size : Int) ≤ 600 := by omega
    obtain ⟨i0, hi0, hz0, hz1, hz2⟩ := info_parts info_byte
    have HI := Lib.hid (And.intro hi0 (And.intro hz0 (And.intro hz1 hz2)))
    clear hf hi0 hz0 hz1 hz2
    go_enter Tryz.func49, Tryz.ntmps49
    go_wp2_with fail
    refine wp_abs (fun W => PBx w W w.heap.size (w.heap.size + 1) (w.heap.size + 1 + 1) (w.heap.size + 1 + 1 + 1) s (.slice none 0 0) 0) (PBx.init w s) ?_
    intro W hW
    have HW := Lib.hid hW
    clear hW
    revert HW
    generalize w.heap.size + 1 + 1 + 1 = base
    generalize w.heap.size + 1 + 1 = gp
    generalize w.heap.size + 1 = gb
    generalize w.heap.size = gs
    intro HW
    go_loopw [7] (fun iv wr => ∃ (B : Value) (o : List UInt8) (p i : Nat), iv = .int .i64 i ∧ PBx w wr gs gb gp base s B p ∧ wr.ownsRow base 5 1 B o.length (cells o) ∧ p ≤ i ∧ i ≤ s.size ∧ o.length ≤ 2 * (i - p) ∧ packF s o (i - p) i = packF s [] 0 0) (fun iv _ => s.size - (intOf iv).toNat)
    case atStart => exact ⟨.slice none 0 0, [], 0, 0, rfl, HW.out, World.ownsRow_nil _ _ _ _, by omega, by omega, by simp, rfl⟩
    case round =>
      clear HW
      obtain ⟨B, o, p, i, rfl, hb, ho, hpi, his, hol, heq⟩ := hrel
      have HEQ := Lib.hid heq
      have HO := Lib.hid ho
      have HB := Lib.hid hb
      have q2 := hb.box.cell 0
      simp at q2
      clear heq ho hb
      by_cases hi : i < s.size
      · have HI2 := Lib.hid hi
        go_wp2_with fail
        refine (piece_any s i _ hi hs').mono ?_
        rintro e' w1 ⟨rfl, hx1⟩
        have hb1 := HB.out.grown (hx1.by_ none) (fun k hk => by cases hk)
        have HO1 := Lib.hid (own_ext HO.out hx1)
        have HB1 := Lib.hid hb1
        have r0 := hb1.pl.cell 0
        simp at r0
        have r1 := hb1.buf.cell 0
        simp at r1
        have r2 := hb1.box.cell 0
        simp at r2
        have z0 := hb1.pl.frozen 0
        have z1 := hb1.buf.frozen 0
        obtain ⟨n, hn⟩ : ∃ n, n = (pieceF s i 1 0 0).1 := ⟨_, rfl⟩
        obtain ⟨d, hd⟩ : ∃ d, d = (pieceF s i 1 0 0).2 := ⟨_, rfl⟩
        rw [← hn, ← hd]
        have HPP := Lib.hid (show pieceF s i 1 0 0 = (n, d) by rw [hn, hd])
        have HPL := Lib.hid (show n ≤ 131 ∧ i + n ≤ s.size by rw [hn]; exact piece_le s i his)
        have hd255 : (d : Int) ≤ 255 := by have := pieceF_back s i 1 0 0 (by omega); omega
        have hn131 : (n : Int) ≤ 131 := by have := HPL.out.1; omega
        have hi6 : (i : Int) < 600 := by omega
        have hp6 : (p : Int) < 600 := by omega
        clear hb1 hn hd q2 hx1
        by_cases h4 : n < 4
        · have HNX := Lib.hid (show packF s o (i - p) (i + 1) = packF s [] 0 0 by rw [← HEQ.out]; exact (pack_plain HI2.out (by rw [HPP.out]; exact h4)).symm)
          go_wp2_with fail
          go_roundw
          case rel =>
            refine ⟨B, o, p + 1, i + 1, by first | rfl | go_num, ?_, ?_, by omega, by omega, by omega, by rw [show i + 1 - (p + 1) = i - p by omega]; exact HNX.out⟩
            · have := HB1.out.setPl (p + 1)
              simpa using this
            · refine ownsRow_setCell_other HO1.out ?_ _
              intro e; have h1 : base ≤ gp := (HO1.out.lt _ e).1; have := HB1.out.bp; omega
          case measure => (simp [intOf]; try omega)
        · have HN4 := Lib.hid h4
          have HPI := Lib.hid (And.intro hpi hol)
          have HOL := Lib.hid (show (o ++ plainF (sub_ s (i - p) i)).length ≤ 2 * i by
            have h1 := plain_len2 (sub_ s (i - p) i)
            rw [length_sub_ s _ _ his] at h1
            rw [List.length_append]; omega)
          have HNX := Lib.hid (show packF s (o ++ plainF (sub_ s (i - p) i) ++ [UInt8.ofNat (124 + n), UInt8.ofNat d]) (i + n) (i + n) = packF s [] 0 0 by rw [← HEQ.out]; exact (pack_piece HI2.out HPP.out h4).symm)
          have t3 : decide ((n : Int) < 4) = false := by simp; omega
          go_wp2_with fail
          refine (flush_any w w1 gs gb gp base s B o p i HB1.out HO1.out hpi his hs' (by omega)).mono ?_
          rintro e' w2 ⟨rfl, B2, hb2, ho2⟩
          obtain ⟨A2, c2, rfl⟩ := own_slice ho2
          generalize hO2 : o ++ plainF (sub_ s (i - p) i) = O2 at *
          have HO2 := Lib.hid ho2
          have HB2 := Lib.hid hb2
          have hln : (O2.length : Int) ≤ 1200 := by have := HOL.out; omega
          have hx128 : IntKind.i64.wrap (128 + (n : Int)) = 128 + (n : Int) := by rw [IntKind.wrap_i64]; omega
          have hx124 : IntKind.i64.wrap (128 + (n : Int) - 4) = 124 + (n : Int) := by rw [IntKind.wrap_i64]; omega
          have hx124' : 128 + (n : Int) - 4 = 124 + (n : Int) := by omega
          have hxu : IntKind.u8.wrap (124 + (n : Int)) = 124 + (n : Int) := by rw [IntKind.wrap_u8]; omega
          have hxd : IntKind.u8.wrap (d : Int) = (d : Int) := by rw [IntKind.wrap_u8]; omega
          have m1 := hb2.buf.cell 0
          simp at m1
          have y1 := hb2.buf.frozen 0
          clear hO2 ho2 hb2 r0 r1 r2 z0 z1 h4 hpi hol t3
          go_wp2_with (at_builtin; refine wpList_append_at _ rfl (.tmp 33) (.tmp 40) 95 rfl base 5 i0 (.int .u8 0) 1 1 Tryz.underlying95 HI.out.1 HI.out.2.1 HI.out.2.2.1 HI.out.2.2.2 rfl (by decide) _ _ _ rfl (own_ext HO2.out ((Ext.refl _).alloc _)) ⟨w2.heap.size, 0, none⟩ 2 2 [.int .u8 (124 + (n : Int)), .int .u8 (d : Int)] rfl rfl ?c1 ?c2 ?c3 ?c4 ?c5 ?_)
          case c1 =>
            intro j u hu
            rw [Addr.add_lit, Nat.zero_add, (Blk_.new _ _ _).cell]
            simpa using hu
          case c2 =>
            intro u hu
            simp only [List.mem_cons, List.not_mem_nil, or_false] at hu
            rcases hu with rfl | rfl <;> rfl
          case c3 => unfold maxLen; omega
          case c4 => omega
          case c5 => have := HB2.out.sz; rw [World.size_alloc]; omega
          intro A4 c4 w4 own4 hg4 hb4
          have hb4' := (HB2.out.grown (((Ext.refl w2).alloc _).by_ none) (fun k hk => by cases hk)).grown hg4 (fun k hk => (HO2.out.lt k hk).1)
          have HO4 := Lib.hid (show w4.ownsRow base 5 1 (.slice A4 (O2.length + 2) c4) (O2 ++ [UInt8.ofNat (124 + n), UInt8.ofNat d]).length (cells (O2 ++ [UInt8.ofNat (124 + n), UInt8.ofNat d])) by
            rw [cells_append, List.length_append]
            rw [show cells [UInt8.ofNat (124 + n), UInt8.ofNat d] = [.int .u8 (124 + (n : Int)), .int .u8 (d : Int)] by
              unfold cells
              rw [List.map_cons, List.map_cons, List.map_nil, ← byte_124, ← byte_cast, byte_nat_ _ (by omega) (by omega), byte_nat_ _ (by omega) (by omega)]]
            exact own4)
          have HB4 := Lib.hid hb4'
          have r1 := hb4'.buf.cell 0
          simp at r1
          have z1 := hb4'.buf.frozen 0
          clear own4 hg4 hb4 hb4' m1 y1
          go_wp2_with fail
          go_roundw
          case rel =>
            refine ⟨_, O2 ++ [UInt8.ofNat (124 + n), UInt8.ofNat d], 0, i + n, by first | rfl | go_num, HB4.out.setBuf _, ?_, by omega, HPL.out.2, ?_, HNX.out⟩
            · refine ownsRow_setCell_other HO4.out ?_ _
              intro e; have h1 : base ≤ gb := (HO4.out.lt _ e).1; have := HB4.out.bb; omega
            · have := HOL.out; have := HN4.out; rw [List.length_append]; simp only [List.length_cons, List.length_nil]; omega
          case measure => have := HN4.out; (simp [intOf]; try omega)
      · obtain rfl : i = s.size := by omega
        have HFIN := Lib.hid (show o ++ plainF (sub_ s (s.size - p) s.size) = packF s [] 0 0 by rw [← HEQ.out, pack_stop hi])
        have HPI := Lib.hid hpi
        have HOL := Lib.hid hol
        clear hpi hol hi HEQ
        go_wp2_with fail
        refine (flush_any w wr gs gb gp base s B o p s.size HB.out HO.out HPI.out his hs' (by have := HOL.out; omega)).mono ?_
        rintro e' w2 ⟨rfl, B2, hb2, ho2⟩
        rw [HFIN.out] at ho2
        obtain ⟨A2, c2, rfl⟩ := own_slice ho2
        have HX := Lib.hid hb2.ext
        have m1 := hb2.buf.cell 0
        simp at m1
        generalize hRR : packF s [] 0 0 = R at *
        have HRR := Lib.hid hRR
        clear hRR
        by_cases hR : R.length = 0
        · have hR0 : R = [] := List.eq_nil_of_length_eq_zero hR
          subst hR0
          rcases ho2.2 with ⟨hv, _⟩ | ⟨g, cap, cur, hv, hbg, hg, _⟩
          · injection hv with e1 e2 e3
            subst e1 e3
            clear ho2 hb2 HFIN HB HO hR
            go_wp2_with (refine wpList_fromnil (.tmp 48) 95 9 5 rfl rfl Tryz.underlying95 Tryz.underlying5 Tryz.underlying9 rfl ?_)
            go_wp2_with fail
            go_ret2
            exact ⟨by rw [HRR.out]; rfl, HX.out⟩
          · injection hv with e1 e2 e3
            subst e1 e3
            have HBF := Lib.hid (show Buf 5 w2 g [] from ⟨cur, (0, 0), hg, fun i hi => by simp at hi, fun i hi => by simp at hi⟩)
            clear ho2 hb2 HFIN HB HO hR hg
            go_wp2_with (refine wpList_frombytes (.tmp 48) 95 9 5 rfl rfl Tryz.underlying95 Tryz.underlying5 Tryz.underlying9 g _ _ _ HBF.out rfl rfl ?_)
            go_wp2_with fail
            go_ret2
            exact ⟨by rw [HRR.out]; rfl, HX.out⟩
        · rw [cells_flat] at ho2
          obtain ⟨g, rfl, hg1, hbf, hln⟩ := own_buf ho2 (by omega)
          have HBF := Lib.hid hbf
          clear ho2 hb2 hbf hln HFIN HB HO
          go_wp2_with (refine wpList_frombytes (.tmp 48) 95 9 5 rfl rfl Tryz.underlying95 Tryz.underlying5 Tryz.underlying9 g _ c2 _ HBF.out rfl rfl ?_)
          go_wp2_with fail
          go_ret2
          exact ⟨by rw [HRR.out]; rfl, HX.out⟩
end Go.Proofs.YtgjijcgkmofaaaaGreatDoor

/-
  The head's words of this seat's translation, letter by letter: the kernel reckons three facts of the program off this list where the string itself costs it too much. Conditions: none.
-/
namespace Go.Proofs.YtgjijcgkmofaaaaGreatDoor
def ioChars : List Char := [Char.ofNat 104, Char.ofNat 97, Char.ofNat 114, Char.ofNat 110, Char.ofNat 101, Char.ofNat 115, Char.ofNat 115, Char.ofNat 32, Char.ofNat 52, Char.ofNat 49, Char.ofNat 52, Char.ofNat 53, Char.ofNat 97, Char.ofNat 99, Char.ofNat 53, Char.ofNat 99, Char.ofNat 56, Char.ofNat 98, Char.ofNat 56, Char.ofNat 99, Char.ofNat 50, Char.ofNat 56, Char.ofNat 54, Char.ofNat 55, Char.ofNat 57, Char.ofNat 56, Char.ofNat 48, Char.ofNat 55, Char.ofNat 100, Char.ofNat 48, Char.ofNat 54, Char.ofNat 54, Char.ofNat 99, Char.ofNat 97, Char.ofNat 48, Char.ofNat 48, Char.ofNat 49, Char.ofNat 100, Char.ofNat 99, Char.ofNat 97, Char.ofNat 57, Char.ofNat 101, Char.ofNat 102, Char.ofNat 101, Char.ofNat 53, Char.ofNat 48, Char.ofNat 57, Char.ofNat 54, Char.ofNat 48, Char.ofNat 99, Char.ofNat 54, Char.ofNat 50, Char.ofNat 49, Char.ofNat 53, Char.ofNat 100, Char.ofNat 98, Char.ofNat 98, Char.ofNat 101, Char.ofNat 102, Char.ofNat 50, Char.ofNat 53, Char.ofNat 56, Char.ofNat 56, Char.ofNat 53, Char.ofNat 57, Char.ofNat 57, Char.ofNat 97, Char.ofNat 97, Char.ofNat 101, Char.ofNat 56, Char.ofNat 54, Char.ofNat 48, Char.ofNat 32, Char.ofNat 99, Char.ofNat 117, Char.ofNat 116, Char.ofNat 32, Char.ofNat 97, Char.ofNat 116, Char.ofNat 32, Char.ofNat 97, Char.ofNat 114, Char.ofNat 114, Char.ofNat 97, Char.ofNat 115, Char.ofNat 47, Char.ofNat 97, Char.ofNat 114, Char.ofNat 114, Char.ofNat 97, Char.ofNat 115, Char.ofNat 116, Char.ofNat 111, Char.ofNat 112, Char.ofNat 46, Char.ofNat 84, Char.ofNat 111, Char.ofNat 112, Char.ofNat 79, Char.ofNat 110, Char.ofNat 101, Char.ofNat 32, Char.ofNat 97, Char.ofNat 114, Char.ofNat 114, Char.ofNat 97, Char.ofNat 115, Char.ofNat 47, Char.ofNat 97, Char.ofNat 114, Char.ofNat 114, Char.ofNat 97, Char.ofNat 115, Char.ofNat 116, Char.ofNat 111, Char.ofNat 112, Char.ofNat 46, Char.ofNat 84, Char.ofNat 111, Char.ofNat 112, Char.ofNat 84, Char.ofNat 104, Char.ofNat 101, Char.ofNat 110, Char.ofNat 32, Char.ofNat 97, Char.ofNat 114, Char.ofNat 114, Char.ofNat 97, Char.ofNat 115, Char.ofNat 47, Char.ofNat 97, Char.ofNat 114, Char.ofNat 114, Char.ofNat 97, Char.ofNat 115, Char.ofNat 116, Char.ofNat 111, Char.ofNat 112, Char.ofNat 46, Char.ofNat 84, Char.ofNat 111, Char.ofNat 112, Char.ofNat 72, Char.ofNat 101, Char.ofNat 97, Char.ofNat 108, Char.ofNat 116, Char.ofNat 104, Char.ofNat 32, Char.ofNat 97, Char.ofNat 114, Char.ofNat 114, Char.ofNat 97, Char.ofNat 115, Char.ofNat 47, Char.ofNat 97, Char.ofNat 114, Char.ofNat 114, Char.ofNat 97, Char.ofNat 115, Char.ofNat 107, Char.ofNat 101, Char.ofNat 101, Char.ofNat 112, Char.ofNat 46, Char.ofNat 65, Char.ofNat 114, Char.ofNat 99, Char.ofNat 104, Char.ofNat 105, Char.ofNat 118, Char.ofNat 101, Char.ofNat 115, Char.ofNat 66, Char.ofNat 97, Char.ofNat 99, Char.ofNat 107, Char.ofNat 32, Char.ofNat 97, Char.ofNat 114, Char.ofNat 114, Char.ofNat 97, Char.ofNat 115, Char.ofNat 47, Char.ofNat 97, Char.ofNat 114, Char.ofNat 114, Char.ofNat 97, Char.ofNat 115, Char.ofNat 107, Char.ofNat 101, Char.ofNat 101, Char.ofNat 112, Char.ofNat 46, Char.ofNat 83, Char.ofNat 104, Char.ofNat 101, Char.ofNat 108, Char.ofNat 108, Char.ofNat 115, Char.ofNat 71, Char.ofNat 111, Char.ofNat 111, Char.ofNat 100, Char.ofNat 32, Char.ofNat 97, Char.ofNat 114, Char.ofNat 114, Char.ofNat 97, Char.ofNat 115, Char.ofNat 47, Char.ofNat 97, Char.ofNat 114, Char.ofNat 114, Char.ofNat 97, Char.ofNat 115, Char.ofNat 116, Char.ofNat 111, Char.ofNat 112, Char.ofNat 46, Char.ofNat 84, Char.ofNat 111, Char.ofNat 112, Char.ofNat 65, Char.ofNat 102, Char.ofNat 116, Char.ofNat 101, Char.ofNat 114, Char.ofNat 32, Char.ofNat 97, Char.ofNat 114, Char.ofNat 114, Char.ofNat 97, Char.ofNat 115, Char.ofNat 47, Char.ofNat 97, Char.ofNat 114, Char.ofNat 114, Char.ofNat 97, Char.ofNat 115, Char.ofNat 116, Char.ofNat 111, Char.ofNat 112, Char.ofNat 46, Char.ofNat 84, Char.ofNat 111, Char.ofNat 112, Char.ofNat 78, Char.ofNat 97, Char.ofNat 109, Char.ofNat 101, Char.ofNat 115, Char.ofNat 32, Char.ofNat 97, Char.ofNat 114, Char.ofNat 114, Char.ofNat 97, Char.ofNat 115, Char.ofNat 47, Char.ofNat 97, Char.ofNat 114, Char.ofNat 114, Char.ofNat 97, Char.ofNat 115, Char.ofNat 116, Char.ofNat 111, Char.ofNat 112, Char.ofNat 46, Char.ofNat 84, Char.ofNat 111, Char.ofNat 112, Char.ofNat 83, Char.ofNat 99, Char.ofNat 114, Char.ofNat 117, Char.ofNat 98, Char.ofNat 32, Char.ofNat 97, Char.ofNat 114, Char.ofNat 114, Char.ofNat 97, Char.ofNat 115, Char.ofNat 47, Char.ofNat 97, Char.ofNat 114, Char.ofNat 114, Char.ofNat 97, Char.ofNat 115, Char.ofNat 116, Char.ofNat 111, Char.ofNat 112, Char.ofNat 46, Char.ofNat 84, Char.ofNat 111, Char.ofNat 112, Char.ofNat 83, Char.ofNat 116, Char.ofNat 101, Char.ofNat 112, Char.ofNat 115, Char.ofNat 32, Char.ofNat 97, Char.ofNat 114, Char.ofNat 114, Char.ofNat 97, Char.ofNat 115, Char.ofNat 47, Char.ofNat 97, Char.ofNat 114, Char.ofNat 114, Char.ofNat 97, Char.ofNat 115, Char.ofNat 116, Char.ofNat 111, Char.ofNat 112, Char.ofNat 46, Char.ofNat 84, Char.ofNat 111, Char.ofNat 112, Char.ofNat 84, Char.ofNat 119, Char.ofNat 105, Char.ofNat 99, Char.ofNat 101]
theorem io_eq : Tryz.prog.initOrder = String.ofList ioChars := by kernel_rfl
theorem io_list : Tryz.prog.initOrder.toList = ioChars := by rw [io_eq, String.toList_ofList]
theorem words_ : behindMainWord (wordsSigns ioChars) = [[Char.ofNat 99, Char.ofNat 117, Char.ofNat 116]] ++ (wordsSigns ioChars).drop 3 := by kernel_rfl
theorem words_at : behindMainWord (wordsSigns Tryz.prog.initOrder.toList) = [[Char.ofNat 99, Char.ofNat 117, Char.ofNat 116]] ++ (wordsSigns ioChars).drop 3 := by rw [io_list]; exact words_
theorem later_ : Tryz.prog.laysLater = false := by kernel_rfl
theorem reflect_ : Tryz.prog.bearsReflect = false := by kernel_rfl
theorem fits_ : Tryz.prog.doorFits [] = true := by kernel_rfl
theorem make_gen {P : Program} {rest : List (List Char)} (h : behindMainWord (wordsSigns P.initOrder.toList) = [[Char.ofNat 99, Char.ofNat 117, Char.ofNat 116]] ++ rest) : P.make = some .cut := by
  unfold Program.make
  rw [h]
  simp only [List.singleton_append]
  rw [if_neg (by decide), if_pos (by rw [show (([Char.ofNat 99, Char.ofNat 117, Char.ofNat 116] : List Char) == "cut".toList) = true from by decide]; rfl)]
theorem strip_gen (rest : List (List Char)) : stripLifts liftWords ([Char.ofNat 99, Char.ofNat 117, Char.ofNat 116] :: rest) = ([], [Char.ofNat 99, Char.ofNat 117, Char.ofNat 116] :: rest) := by kernel_rfl
theorem headLifts_gen {P : Program} {rest : List (List Char)} (h : behindMainWord (wordsSigns P.initOrder.toList) = [[Char.ofNat 99, Char.ofNat 117, Char.ofNat 116]] ++ rest) : P.headLifts = [] := by
  unfold Program.headLifts
  rw [h, List.singleton_append, strip_gen]
  dsimp only
  split <;> rfl
theorem liftsFinal_gen {P : Program} {rest : List (List Char)} (h : behindMainWord (wordsSigns P.initOrder.toList) = [[Char.ofNat 99, Char.ofNat 117, Char.ofNat 116]] ++ rest) : P.liftsFinal = false := by
  unfold Program.liftsFinal
  rw [h, headLifts_gen h, List.singleton_append]
  dsimp only
  rw [List.head?_cons, show (some [Char.ofNat 99, Char.ofNat 117, Char.ofNat 116] == some "carried".toList) = false from by decide]
  rfl
theorem mayEnter_gen {P : Program} {rest : List (List Char)} (h : behindMainWord (wordsSigns P.initOrder.toList) = [[Char.ofNat 99, Char.ofNat 117, Char.ofNat 116]] ++ rest)
    (h1 : P.laysLater = false) (h2 : P.bearsReflect = false) (h3 : P.doorFits [] = true) : P.mayEnter = true := by
  unfold Program.mayEnter
  rw [h, List.singleton_append]
  dsimp only
  rw [strip_gen]
  dsimp only
  rw [h1, h2, h3]
  first | kernel_rfl | exact rfl
theorem mayEnter_ : Tryz.prog.mayEnter = true := mayEnter_gen words_at later_ reflect_ fits_
theorem liftsFinal_ : Tryz.prog.liftsFinal = false := liftsFinal_gen words_at
theorem make_ : Tryz.prog.make = some .cut := make_gen words_at
theorem laidOut : laidOutB Tryz.prog = true := by kernel_rfl
theorem mapsRowed_ : mapsRowed Tryz.prog = true := by kernel_rfl
theorem stopsHeard_ : Tryz.prog.stopsHeard = true := by kernel_rfl
theorem plainKeys_ : Tryz.prog.plainKeys = true := by kernel_rfl
theorem stops_ : Tryz.prog.stops = [] := by kernel_rfl
theorem knobs_ : Tryz.prog.stopKnobs = [] := by kernel_rfl

/-- The facts of a row, out of the program's own and those of the one function. -/
theorem joined_mk {P : Program} {f : FuncId} {fn : Func} {s : ChangeSpec} {c : OpenClaim}
    (l1 : laidOutB P = true) (l2 : mapsRowed P = true) (l3 : P.stopsHeard = true) (l4 : P.plainKeys = true) (l5 : P.stops = []) (l6 : P.stopKnobs = []) (l7 : P.mayEnter = true) (l8 : P.liftsFinal = false) (l9 : P.make = some .cut)
    (r1 : c.inPlace = P.inPlace f) (r2 : c.unfollowed = P.unfollowed f) (r3 : c.recurses = P.recurses f) (r4 : c.named = P.varsNamed f)
    (q1 : (c.wf (OpenSpec.ofChange s) && fn.params.all (P.readableRec ·) && namedTie P c.named s.vars && (c.stops == []) && (c.knobs == []) && (c.plainKeys == true) && (c.lifted == false) && (some .cut == some c.make)) = true)
    (q2 : (c.maps == (fn.params.toList ++ s.plain.varTypes P).any (P.mapsRec ·)) = true) (q3 : (c.ifaces == (fn.params.toList ++ s.plain.varTypes P).any (P.ifacesRec ·)) = true) (q4 : (c.mapsOut == P.mapsAmong fn.resultTypes.toList) = true)
    (q5 : (c.loops == (fn.params.toList ++ s.plain.varTypes P).any (P.loopsFrom ·)) = true) (q6 : (c.wideKeys == (fn.params.toList ++ s.plain.varTypes P ++ fn.resultTypes.toList).any (P.wideKeysFrom ·)) = true)
    (q7 : (s.vars.all (P.varReadable ·) && fn.resultTypes.all (fun t => P.readableRec t && decide (t < P.types.size)) && (c.ifacesOut == fn.resultTypes.toList.any (P.ifacesRec ·)) && (c.loopsOut == fn.resultTypes.toList.any (P.loopsFrom ·)) && c.shortTexts.isNone) = true)
    (q8 : c.domain = []) (q8' : c.kinds = []) (q9 : (c.pinned == c.pinnedBy) = true)
    (q10 : (c.veiled == (fn.params.toList ++ s.plain.varTypes P ++ fn.resultTypes.toList).any (P.veiledRec ·)) = true)
    (q11 : c.veiledFits P fn.params.toList (fn.params.toList ++ s.plain.varTypes P ++ fn.resultTypes.toList) = true) : joinedFacts P f fn s c = true := by
  simp only [Bool.and_eq_true] at q1 q7
  obtain ⟨⟨⟨⟨⟨⟨⟨w1, w2⟩, w3⟩, w4⟩, w5⟩, w6⟩, w7⟩, w8⟩ := q1
  obtain ⟨⟨⟨⟨v1, v2⟩, v3⟩, v4⟩, v5⟩ := q7
  unfold joinedFacts
  rw [l1, l2, l3, l4, l5, l6, l7, l8, l9, w1, w2, w3, w4, w5, w6, w7, w8, q2, q3, q4, q5, q6, v1, v2, v3, v4, v5, q9, q10, q11]
  simp [r1, r2, r3, r4, q8, q8']
end Go.Proofs.YtgjijcgkmofaaaaGreatDoor

/-
  From the walk of a law to its row: what is owed behind a call that answers true and only makes new memory; each argument opened by its type. Conditions: none.
-/
namespace Go.Proofs.YtgjijcgkmofaaaaGreatDoor
set_option linter.unusedSimpArgs false
set_option linter.unusedVariables false
open Go.RowKit Go.ChangeShapes Go.WideShapes Go.ChangeAt Go.Deep

theorem own : ownKnob Tryz.prog.godebug = none := by kernel_rfl

section
variable {H : Type} {enc : TypeId × Value → H} {P : Program}
theorem trodAll_stays (hl : laidOutB P = true) {W W' : World} (hb : Below W.heap.size W W') : ∀ {ts : List TypeId} {vs : List Value} {ds : List (DataW H)} {ps : List MemPlace},
    ts.all (fun t => P.readableRec t && decide (t < P.types.size)) = true → DataW.TrodAll enc P W 0 (fun _ => true) true ts vs ds ps → (∀ x ∈ ps, x.block < W.heap.size) →
    DataW.TrodAll enc P W' 0 (fun b => decide (b < W.heap.size)) true ts vs ds ps
  | [], [], [], _, _, h, _ => h
  | t :: ts, v :: vs, d :: ds, _, hr, ⟨p, q, h1, h2, e⟩, hlt => by
    simp only [List.all_cons, Bool.and_eq_true, decide_eq_true_eq] at hr
    subst e
    exact ⟨p, q, Below.trod hl hr.1.1 hr.1.2 h1 hb (fun x hx => hlt x (List.mem_append.2 (.inl hx))), trodAll_stays hl hb (by simpa using hr.2) h2 (fun x hx => hlt x (List.mem_append.2 (.inr hx))), rfl⟩
  | [], [], _ :: _, _, _, h, _ => h.elim
  | [], _ :: _, _, _, _, h, _ => by cases h
  | _ :: _, [], _, _, _, h, _ => by cases h
  | _ :: _, _ :: _, [], _, _, h, _ => by cases h

/-- What is owed behind a call that answers true and only makes new memory. -/
theorem law_post {f : Func} {s : ChangeSpec} {W W' : World} {args : Array Value} {ds gs : List (DataW H)} {before : List MemPlace} {tb : TypeId}
    (hl : laidOutB P = true) (hvars : s.vars = []) (hr : f.params.toList.all (fun t => P.readableRec t && decide (t < P.types.size)) = true)
    (hres : f.resultTypes = #[tb]) (htb : P.underlying tb = some .bool)
    (hspec : s.fn H (ds ++ gs) = { results := [.lit (.bool true)], args := ds })
    (hW : DataW.Whole enc P f.params.toList s.vars false W args.toList ds gs before) (hx : Ext W W') :
    s.post enc P f false true false false W args (.bool true) W' := by
  have hlt := hW.lt
  have hW' := hW
  obtain ⟨p, q, hA, hV, hpq, hfz, hnd⟩ := hW
  rw [hvars] at hV
  obtain ⟨rfl, rfl⟩ := trodVars_none hV
  rw [List.append_nil] at hpq
  subst hpq
  refine ⟨ds, [], before, [], before, [], hW', ?_, ?_, ?_, ?_, fun h => by cases h⟩
  · rw [hspec, hres]
    exact trodAll_mk1 (shut_bool htb true)
  · rw [hspec]
    exact trodAll_stays hl hx.below hr hA hlt
  · rw [hspec, hvars]
    rfl
  · exact hx.below.frame _
end

section
variable {H : Type} {enc : TypeId × Value → H} {P : Program} {W : World} {base : Nat} {t : TypeId} {v : Value} {d : DataW H} {ps : List MemPlace}
theorem param_struct {α : Type} {R : Rd α} {fs : Array Field} (ho : Opens H enc P W (fun _ => true) t R) (ht : P.underlying t = some (.struct fs)) (hv : Value.okWide P W .any base t v)
    (h : DataW.Trod enc P W 0 (fun _ => true) true t v d ps) (hz : ∀ n ∈ d.weights P t, n ≤ reachBytes) : ∃ (cs : List Value) (a : α), v = .agg cs.toArray ∧ R W cs a := by
  obtain ⟨cs, rfl, _⟩ := okWide_struct ht hv
  obtain ⟨fuel, h⟩ := h
  obtain ⟨a, ha⟩ := ho fuel _ (d, ps) h hz
  exact ⟨_, a, rfl, ha⟩
theorem param_slice {α : Type} {R : Rd α} {e : TypeId} {C bytes : Nat} (ht : P.underlying t = some (.slice e)) (ho : Opens H enc P W (fun _ => true) t (fun w cs (l : List α) => ∃ v, cs = [v] ∧ SlR C bytes R w v l))
    (hv : Value.okWide P W .any base t v) (h : DataW.Trod enc P W 0 (fun _ => true) true t v d ps) (hz : ∀ n ∈ d.weights P t, n ≤ reachBytes) : ∃ l : List α, SlR C bytes R W v l := by
  obtain ⟨A, len, cap, rfl⟩ := okWide_slice ht hv
  obtain ⟨fuel, h⟩ := h
  obtain ⟨a, v', hv', ha⟩ := ho fuel _ (d, ps) h hz
  simp only [Value.cells, List.cons.injEq, and_true] at hv'
  subst hv'
  exact ⟨a, ha⟩
theorem param_int (ht : P.underlying t = some (.int .i64)) (hv : Value.okWide P W .any base t v) (h : DataW.Trod enc P W 0 (fun _ => true) true t v d ps) : ∃ n : Int, v = .int .i64 n ∧ I64 n := by
  obtain ⟨n, rfl, rfl, rfl, hw⟩ := open_int ht hv h
  refine ⟨n, rfl, ?_⟩
  simpa [Lit.wf, IntKind.min, IntKind.max, IntKind.signed, IntKind.bits, I64] using hw
theorem param_byte (ht : P.underlying t = some (.int .u8)) (hv : Value.okWide P W .any base t v) (h : DataW.Trod enc P W 0 (fun _ => true) true t v d ps) : ∃ n : Int, v = .int .u8 n ∧ 0 ≤ n ∧ n < 256 := by
  obtain ⟨n, rfl, rfl, rfl, hw⟩ := open_int ht hv h
  refine ⟨n, rfl, ?_⟩
  simp [Lit.wf, IntKind.min, IntKind.max, IntKind.signed, IntKind.bits] at hw
  omega
theorem param_string (ht : P.underlying t = some .string) (hv : Value.okWide P W .any base t v) (h : DataW.Trod enc P W 0 (fun _ => true) true t v d ps) (hz : ∀ n ∈ d.weights P t, n ≤ reachBytes) :
    ∃ s : ByteArray, v = .string s ∧ s.size ≤ 140737488355328 := by
  obtain ⟨s, rfl, rfl, rfl, hw⟩ := Go.ChangeMaps.open_string ht hv h
  refine ⟨s, rfl, ?_⟩
  have := hz s.data.toList.length (by simp [DataW.weights])
  rw [show s.data.toList.length = s.size from length_lst s] at this
  exact Nat.le_trans this (by decide)
end
theorem weights_each {H : Type} {P : Program} {ts : List TypeId} {ds : List (DataW H)} (h : (DataW.weightsEach P ts ds).all (· ≤ reachBytes) = true) (j : Nat) {t : TypeId} {d : DataW H} (ht : ts[j]? = some t) (hd : ds[j]? = some d) :
    ∀ n ∈ d.weights P t, n ≤ reachBytes := fun n hn => by
  have := List.all_eq_true.1 h n (DataW.weights_mem_each ht hd n hn)
  simpa using this
end Go.Proofs.YtgjijcgkmofaaaaGreatDoor
