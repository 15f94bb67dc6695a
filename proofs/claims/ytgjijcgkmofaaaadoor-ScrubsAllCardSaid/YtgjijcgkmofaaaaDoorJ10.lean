/-
  slices.Repeat of one text: a row of the call's own, of as many copies. Conditions: at least one, at most 1000 copies.
-/
import Derived.Test.YtgjijcgkmofaaaaDoorJ9
import Derived.Laws.CopyRow
import Derived.Lib.SlBuf
namespace Go.Proofs.YtgjijcgkmofaaaaDoor
set_option linter.unusedSimpArgs false
set_option linter.unusedVariables false
open Go.RowKit

/-- k copies, then empty texts. -/
def repCells (s : ByteArray) (n k : Nat) : Array Value := (List.replicate k (Value.string s) ++ List.replicate (n - k) (Value.string .empty)).toArray
theorem repCells_size (s : ByteArray) {n k : Nat} (h : k ≤ n) : (repCells s n k).size = n := by unfold repCells; simp; omega
theorem repCells_at {s : ByteArray} {n k j : Nat} (h : j < k) : (repCells s n k)[j]? = some (.string s) := by
  unfold repCells
  rw [List.getElem?_toArray, List.getElem?_append_left (by simpa using h), List.getElem?_replicate, if_pos h]
theorem repCells_step {s : ByteArray} {n k m : Nat} (h : k + m ≤ n) : ((repCells s n k).toList.take k ++ List.replicate m (Value.string s) ++ (repCells s n k).toList.drop (k + m)).toArray = repCells s n (k + m) := by
  unfold repCells
  congr 1
  have h1 : (List.replicate k (Value.string s)).length = k := by simp
  rw [List.take_left' h1, List.drop_append, List.length_replicate, List.drop_of_length_le (by simp), List.nil_append, List.drop_replicate, show k + m - k = m by omega, show n - k - m = n - (k + m) by omega, List.replicate_append_replicate]
theorem setRow_grown (w : World) (g : Nat) (cs : Array Value) : w.grownBy (w.setRow g cs) (some g) := by
  refine ⟨rfl, rfl, rfl, ?_, fun b hb hne => ?_⟩
  · unfold World.setRow; simp
  · unfold World.setRow
    rw [Array.getElem?_modify, if_neg (fun e => hne (by rw [e]))]
theorem Blk_.setRow {w : World} {g : Nat} {t : TypeId} {cs : Array Value} (h : Blk_ w g t cs) (cs' : Array Value) : Blk_ (w.setRow g cs') g t cs' := setRow_heap w g cs cs' t (0, 0) h
theorem info_strS : (Tryd.prog.info? 9).map (fun i => (i.zero, i.size, i.bytes)) = some (some (.string .empty), 1, 16) := by kernel_rfl
theorem info_strS1 : (Tryd.prog.info? 9).map (·.size) = some 1 := by kernel_rfl
set_option maxRecDepth 100000 in
set_option maxHeartbeats 4000000 in
theorem repS_any (s : ByteArray) (n : Nat) (x : Nat) (c0 : Nat) (w : World) (hx : Blk_ w x 9 #[.string s]) (h1 : 1 ≤ n) (h2 : n ≤ 1000) :
    Calls Tryd.prog 16 #[.slice (some ⟨x, 0, none⟩) 1 c0, .int .i64 n] w fun e w' => ∃ g, e = .returned (.slice (some ⟨g, 0, none⟩) n n) ∧ Ext w w' ∧ w.heap.size ≤ g ∧ Blk_ w' g 9 (repCells s n n) := by
  obtain ⟨i0, hi, hz0, hz1, hz2⟩ := info_parts info_strS
  obtain ⟨cs, hcs, hmk⟩ := make_row (P := Tryd.prog) 26 9 i0 (.string .empty) Tryd.underlying26 hi hz0 hz1 rfl n (by rw [hz2]; omega) (by omega)
  obtain rfl : cs = repCells s n 0 := by unfold repCells; rw [List.replicate_zero, List.nil_append, Nat.sub_zero, ← hcs]
  have HN := Lib.hid (And.intro h1 h2)
  have HXB := Lib.hid hx
  have HIS := Lib.hid info_strS1
  clear hi hz0 hz1 hz2 hcs hx
  have n0 : ¬ (n : Int) < 0 := by omega
  have n1 : (1 : Int) ≤ (n : Int) := by omega
  have n2 : (n : Int) ≤ 1000 := by omega
  clear h1 h2
  go_enter Tryd.func16, Tryd.ntmps16
  go_wp2_with fail
  refine (Tryd.bits_Mul 1 n (by decide) (by have := HN.out; omega) w).mono ?_
  rintro e w1 ⟨rfl, hw⟩
  obtain rfl := hw.symm
  have e1 : (1 * n / 18446744073709551616 : Nat) = 0 := by have := HN.out; omega
  have e2 : (1 * n % 18446744073709551616 : Nat) = n := by have := HN.out; omega
  rw [e1, e2]
  clear e1 e2
  have hst := repCells_step (s := s) (n := n) (k := 0) (m := 1) (by have := HN.out; omega)
  simp only [Nat.zero_add, List.replicate_one] at hst
  have hcp : (Builtin.copy_ #[26, 26] 3 #[.slice (some ⟨w.heap.size, 0, none⟩) n n, .slice (some ⟨x, 0, none⟩) 1 c0]).run Tryd.prog (w.alloc (.cells (repCells s n 0) 9)) =
      .ok (.int .i64 1) ((w.alloc (.cells (repCells s n 0) 9)).setRow w.heap.size (repCells s n 1)) := by
    rw [run_copy_row (P := Tryd.prog) _ 26 26 _ 9 w.heap.size 0 n n ⟨x, 0, none⟩ 1 c0 (repCells s n 0) 9 [.string s] Tryd.underlying26 HIS.out (Blk_.new w _ _) ?q1 ?q2 ?q3 ?q4]
    · simp only [List.length_cons, List.length_nil, Nat.zero_add]
      rw [hst]
      rfl
    case q1 => have := HN.out; show 1 = min 1 n; omega
    case q2 =>
      intro j v hv
      match j, hv with
      | 0, hv =>
        obtain rfl : Value.string s = v := by simpa using hv
        have := (HXB.out.alloc (.cells (repCells s n 0) 9)).cell 0
        simpa [Addr.add_lit] using this
    case q3 => have := HN.out; rw [repCells_size _ (by omega)]; show 0 + 1 ≤ n; omega
    case q4 => intro v hv; obtain rfl := List.mem_singleton.1 hv; rfl
  have n3 : decide (9223372036854775807 < (n : Int)) = false := decide_eq_false (by omega)
  clear hst
  have HG := Lib.hid (Blk_.setRow (Blk_.new w 9 (repCells s n 0)) (repCells s n 1))
  have HX0 := Lib.hid (((Ext.refl w).alloc (.cells (repCells s n 0) 9)).grown (setRow_grown _ w.heap.size (repCells s n 1)) (fun q hq => by obtain rfl := Option.some.inj hq; exact Nat.le_refl _))
  go_wp2_with fail
  clear hcp hmk n3
  refine wp_abs (fun W => Ext w W ∧ Blk_ W w.heap.size 9 (repCells s n 1)) ⟨HX0.out, HG.out⟩ ?_
  rintro W ⟨hx, hb⟩
  obtain ⟨g, hg⟩ : ∃ g, g = w.heap.size := ⟨_, rfl⟩
  rw [← hg] at hb ⊢
  have HGE := Lib.hid hg
  clear hg HG HX0 HXB
  go_loopw [8] (fun kv wr => ∃ k : Nat, kv = .int .i64 k ∧ 1 ≤ k ∧ k ≤ n ∧ Ext w wr ∧ Blk_ wr g 9 (repCells s n k)) (fun kv _ => n - (intOf kv).toNat)
  case atStart => exact ⟨1, rfl, Nat.le_refl _, HN.out.1, hx, hb⟩
  case round =>
    clear hx hb
    obtain ⟨k, rfl, hk1, hk, hx, hb⟩ := hrel
    have HB := Lib.hid hb
    have HX := Lib.hid hx
    have HGL := Lib.hid hb.lt
    clear hx hb
    by_cases hlt : k < n
    · have hki : (k : Int) < (n : Int) := by omega
      have hki0 : (0 : Int) ≤ (k : Int) := by omega
      have hki1 : (k : Int) ≤ (n : Int) := by omega
      obtain ⟨m, hm⟩ : ∃ m, m = min k (n - k) := ⟨_, rfl⟩
      have HM := Lib.hid (show m = min k (n - k) ∧ k < n ∧ k + m ≤ n ∧ m ≤ n - k ∧ 1 ≤ m by omega)
      have hkm : (k : Int) + (m : Int) ≤ (n : Int) := by omega
      have hmk : Nat.min k (n - k) = m := hm.symm
      clear hm
      go_wp2_with fail
      refine wp_region_valsA 7 (some g) (F := ?_) ?_ [(fun (v : Value) (_ : World) => v = .int .i64 (k : Int)), (fun (v : Value) (_ : World) => v = .slice (some ⟨g, 0, none⟩) n n), (fun (v : Value) (_ : World) => v = .int .i64 (k : Int)), (fun (v : Value) (_ : World) => v = .slice (some ⟨g, k, none⟩) (n - k) (n - k)), (fun (v : Value) (_ : World) => v = .slice (some ⟨g, 0, none⟩) n n), (fun (v : Value) (_ : World) => v = .int .i64 (k : Int)), (fun (v : Value) (_ : World) => v = .slice (some ⟨g, 0, none⟩) k n), (fun v u => v = .int .i64 (m : Int) ∧ Blk_ u g 9 (repCells s n (k + m))), (fun (v : Value) (_ : World) => v = .int .i64 ((k + m : Nat) : Int))] (by kernel_rfl) rfl (by kernel_rfl) rfl (by kernel_rfl) ?_ ?_ ?_
      rotate_left
      · intro vals
        simp only [putAll, List.dropLast, Act.put, List.setIfInBounds_toArray, List.set_cons_zero, List.set_cons_succ, Nat.zero_add, Nat.reduceAdd]
        rfl
      · intro j p hp v u u' h hr
        match j, hp with
        | 0, hp => obtain rfl := Option.some.inj hp; exact h
        | 1, hp => obtain rfl := Option.some.inj hp; exact h
        | 2, hp => obtain rfl := Option.some.inj hp; exact h
        | 3, hp => obtain rfl := Option.some.inj hp; exact h
        | 4, hp => obtain rfl := Option.some.inj hp; exact h
        | 5, hp => obtain rfl := Option.some.inj hp; exact h
        | 6, hp => obtain rfl := Option.some.inj hp; exact h
        | 7, hp => obtain rfl := Option.some.inj hp; rw [if_pos rfl] at hr; exact ⟨h.1, h.2.ext hr⟩
        | 8, hp => obtain rfl := Option.some.inj hp; exact h
        | n + 9, hp => exact absurd hp (by simp)
      · refine ⟨?_, ?_, ?_, ?_, ?_, ?_, ?_, ?_, ?_, trivial⟩
        · intro vals W' e hd ho K hK
          have hx : World.grownBy _ W' (some g) := e
          refine st_quiet (v := ?_) ?_ ?_
          rotate_left
          · go_simp
            rfl
          exact hK _ _ _ rfl (by first | exact rfl | exact congrArg (Value.int _) (by first | (rw [IntKind.wrap_i64]; omega) | (rw [IntKind.wrap_u8]; omega) | omega)) (Ext.refl _)
        · intro vals W' e hd ho K hK
          have hx : World.grownBy _ W' (some g) := e
          refine st_quiet (v := ?_) ?_ ?_
          rotate_left
          · go_simp
            rfl
          exact hK _ _ _ rfl (by first | exact rfl | exact congrArg (Value.int _) (by first | (rw [IntKind.wrap_i64]; omega) | (rw [IntKind.wrap_u8]; omega) | omega)) (Ext.refl _)
        · intro vals W' e hd ho K hK
          have hx : World.grownBy _ W' (some g) := e
          refine st_quiet (v := ?_) ?_ ?_
          rotate_left
          · go_simp
            rfl
          exact hK _ _ _ rfl (by first | exact rfl | exact congrArg (Value.int _) (by first | (rw [IntKind.wrap_i64]; omega) | (rw [IntKind.wrap_u8]; omega) | omega)) (Ext.refl _)
        · intro vals W' e hd ho K hK
          have h1 : vals 1 = .slice (some ⟨g, 0, none⟩) n n := hd 1 (by kernel_rfl)
          have h2 : vals 2 = .int .i64 (k : Int) := hd 2 (by kernel_rfl)
          have hx : World.grownBy _ W' (some g) := e
          refine st_quiet (v := ?_) ?_ ?_
          rotate_left
          · go_simp
            rfl
          exact hK _ _ _ rfl (by unfold At; dsimp only [List.getElem?_cons_succ, List.getElem?_cons_zero]; rw [if_neg (by have := HM.out; omega)]) (Ext.refl _)
        · intro vals W' e hd ho K hK
          have hx : World.grownBy _ W' (some g) := e
          refine st_quiet (v := ?_) ?_ ?_
          rotate_left
          · go_simp
            rfl
          exact hK _ _ _ rfl (by first | exact rfl | exact congrArg (Value.int _) (by first | (rw [IntKind.wrap_i64]; omega) | (rw [IntKind.wrap_u8]; omega) | omega)) (Ext.refl _)
        · intro vals W' e hd ho K hK
          have hx : World.grownBy _ W' (some g) := e
          refine st_quiet (v := ?_) ?_ ?_
          rotate_left
          · go_simp
            rfl
          exact hK _ _ _ rfl (by first | exact rfl | exact congrArg (Value.int _) (by first | (rw [IntKind.wrap_i64]; omega) | (rw [IntKind.wrap_u8]; omega) | omega)) (Ext.refl _)
        · intro vals W' e hd ho K hK
          have h4 : vals 4 = .slice (some ⟨g, 0, none⟩) n n := hd 4 (by kernel_rfl)
          have h5 : vals 5 = .int .i64 (k : Int) := hd 5 (by kernel_rfl)
          have hx : World.grownBy _ W' (some g) := e
          refine st_quiet (v := ?_) ?_ ?_
          rotate_left
          · go_simp
            rfl
          exact hK _ _ _ rfl (by first | exact rfl | exact congrArg (Value.int _) (by first | (rw [IntKind.wrap_i64]; omega) | (rw [IntKind.wrap_u8]; omega) | omega)) (Ext.refl _)
        · intro vals W' e hd ho K hK
          have h3 : vals 3 = .slice (some ⟨g, k, none⟩) (n - k) (n - k) := hd 3 (by kernel_rfl)
          have h6 : vals 6 = .slice (some ⟨g, 0, none⟩) k n := hd 6 (by kernel_rfl)
          have hx : Ext _ W' := e
          have hb' : Blk_ W' g 9 (repCells s n k) := HB.out.ext ((Ext.refl _).drew.trans hx)
          refine Go.Lib.wp_copy_run W' (.tmp 41) (.tmp 44) 26 26 rfl _ _ h3 h6 (run_copy_row (P := Tryd.prog) W' 26 26 _ 9 g k (n - k) (n - k) ⟨g, 0, none⟩ k n (repCells s n k) 9 (List.replicate m (.string s)) Tryd.underlying26 HIS.out hb' ?q1 ?q2 ?q3 ?q4) ?q5
          case q1 => have := HM.out; rw [List.length_replicate]; show m = min k (n - k); omega
          case q2 =>
            intro j v hv
            rw [List.getElem?_replicate] at hv
            split at hv
            · rename_i hjm
              rw [Addr.add_lit, Nat.zero_add, hb'.cell, ← hv]
              exact repCells_at (by have := HM.out; omega)
            · cases hv
          case q3 => have := HM.out; rw [List.length_replicate, repCells_size _ (by omega)]; omega
          case q4 => intro v hv; obtain rfl := (List.mem_replicate.1 hv).2; rfl
          case q5 =>
            rw [List.length_replicate]
            refine hK _ _ _ rfl ⟨rfl, ?_⟩ (setRow_grown _ _ _)
            rw [repCells_step (by have := HM.out; omega)]
            exact Blk_.setRow hb' _
        · intro vals W' e hd ho K hK
          have h0 : vals 0 = .int .i64 (k : Int) := hd 0 (by kernel_rfl)
          obtain ⟨h7, b7⟩ := hd 7 (by kernel_rfl)
          have hx : World.grownBy _ W' (some g) := e
          refine st_quiet (v := ?_) ?_ ?_
          rotate_left
          · go_simp
            rfl
          exact hK _ _ _ rfl (by first | exact rfl | exact congrArg (Value.int _) (by first | (rw [IntKind.wrap_i64]; omega) | (rw [IntKind.wrap_u8]; omega) | omega)) (Ext.refl _)
      intro vals W' e hall K hK
      have h8 : vals 8 = .int .i64 ((k + m : Nat) : Int) := hall 8 (by decide)
      obtain ⟨_, hb7⟩ := hall 7 (by decide)
      have HB7 := Lib.hid hb7
      have HX7 := Lib.hid ((HX.out.drew).grown e (fun q hq => by obtain rfl := Option.some.inj hq; rw [HGE.out]; exact Nat.le_refl _))
      clear hall e hb7
      go_wp2_with fail
      go_roundw
      case rel => exact ⟨k + m, by first | rfl | go_num, by have := HM.out; omega, by have := HM.out; omega, HX7.out, HB7.out⟩
      case measure => have := HM.out; rw [h8]; (simp [intOf]; try omega)
    · obtain rfl : k = n := by omega
      clear hlt
      go_wp2_with fail
      go_ret
      exact ⟨g, rfl, HX.out, by rw [HGE.out]; exact Nat.le_refl _, HB.out⟩
end Go.Proofs.YtgjijcgkmofaaaaDoor

/-
  arraskeep.filled: an array into which payloads made of raw numbers were written, and what its sectors tell. Conditions: the first argument reads as a list of raw numbers, the second one is a number of sectors that an array may have; the table of powers of ten that the library reads is in place.
-/
namespace Go.Proofs.YtgjijcgkmofaaaaDoor
set_option linter.unusedSimpArgs false
set_option linter.unusedVariables false
open Go.RowKit

def encRw (x : Raw4) : List Value := [.int .i64 x.kind, .int .i64 x.a, .int .i64 x.b, .int .i64 x.c]
theorem encRw_ok : Enc 4 RRaw encRw := ⟨fun _ => rfl, fun _ _ _ h => h.1, fun _ _ _ _ h => h, fun _ u h => by simp [encRw] at h; rcases h with h | h | h | h <;> subst h <;> rfl⟩
/-- A row of texts of the call's own. -/
def Strs (w : World) (g : Nat) (all : List ByteArray) : Prop := Blk_ w g 9 (all.map Value.string).toArray
theorem Strs.ext {w w' : World} {g : Nat} {all : List ByteArray} (h : Strs w g all) (k : Ext w w') : Strs w' g all := Blk_.ext h k
theorem Strs.far {w : World} {g : Nat} {all : List ByteArray} (h : Strs w g all) {p : Addr} (hp : g ≠ p.block) (u : Value) : Strs (w.setCell p u) g all := Blk_.far h hp u
theorem Strs.set {w : World} {g : Nat} {all : List ByteArray} (h : Strs w g all) (n : Nat) (s : ByteArray) : Strs (w.setCell ⟨g, n, none⟩ (.string s)) g (all.set n s) := by
  have := Blk_.set h n (.string s)
  unfold Strs
  rw [List.map_set]
  simpa using this
theorem Strs.cell {w : World} {g : Nat} {all : List ByteArray} (h : Strs w g all) {n : Nat} (hn : n < all.length) : w.cell? ⟨g, n, none⟩ = some (.string (pl all n)) := by
  rw [Blk_.cell h n]
  unfold pl
  rw [List.getElem?_toArray, List.getElem?_map, List.getD_eq_getElem?_getD, List.getElem?_eq_getElem hn]
  rfl
theorem Strs.rep {w : World} {g : Nat} {s : ByteArray} {n : Nat} (h : Blk_ w g 9 (repCells s n n)) : Strs w g (List.replicate n s) := by
  unfold Strs
  have e : (List.map Value.string (List.replicate n s)).toArray = repCells s n n := by
    unfold repCells
    rw [List.map_replicate, Nat.sub_self, List.replicate_zero, List.append_nil]
  rw [e]; exact h
/-- What stands at the head of a round. -/
structure FX (w wr : World) (b4 b7 g : Nat) (A : Option Addr) (c : Nat) (a : List Dev) (m : Nat) (all : List ByteArray) : Prop where
  ext : Ext w wr
  r4 : Blk_ wr b4 25 #[.slice none 0 0]
  r7 : Blk_ wr b7 25 #[.slice A 3 c]
  strs : Strs wr g all
  arr : ∃ base, b4 < base ∧ OArr 63 wr base (.slice A 3 c) a
  full : Full a m all
theorem FX.up {w wr wr' : World} {b4 b7 g : Nat} {A : Option Addr} {c : Nat} {a : List Dev} {m : Nat} {all : List ByteArray} (h : FX w wr b4 b7 g A c a m all) (k : Ext wr wr') : FX w wr' b4 b7 g A c a m all :=
  ⟨h.ext.trans k, h.r4.ext k, h.r7.ext k, h.strs.ext k, (let ⟨b, hb, ho⟩ := h.arr; ⟨b, hb, ho.ext k⟩), h.full⟩
theorem FX.rarr {w wr : World} {b4 b7 g : Nat} {A : Option Addr} {c : Nat} {a : List Dev} {m : Nat} {all : List ByteArray} (h : FX w wr b4 b7 g A c a m all) : RArr wr [.slice A 3 c] a := by
  obtain ⟨b, hb, ho⟩ := h.arr
  exact ho.rarr (by rw [h.full.good.len]; decide)
set_option maxRecDepth 100000 in
set_option maxHeartbeats 4000000 in
theorem filled_any (v : Value) (l : List Raw4) (m : Nat) (w : World) (h : SlR 4 32 RRaw w v l) (h16 : 16 ≤ m) (h64 : m ≤ 64) (h2 : m % 2 = 0) (ht : Tab w) :
    Calls Tryd.prog 5 #[v, .int .i64 m] w fun e w' => ∃ A c g a all, e = .returned (.tuple #[.agg #[.slice A 3 c], .slice (some ⟨g, 0, none⟩) m m, .bool true]) ∧ Ext w w' ∧ w.heap.size ≤ g ∧ Strs w' g all ∧ RArr w' [.slice A 3 c] a ∧ Full a m all := by
  have hmem := h.mem encRw_ok w
  obtain ⟨A0, c0, rfl, hlb, hlc, p0⟩ := h.rowE encRw_ok
  have HM := Lib.hid hmem
  have HP := Lib.hid p0
  have HT := Lib.hid ht
  have HN := Lib.hid (And.intro h16 (And.intro h64 h2))
  have HNA := Lib.hid (arr_good h16 h64 h2)
  have hll : (l.length : Int) ≤ 140737488355328 := by omega
  have hm1 : (1 : Int) ≤ (m : Int) := by omega
  have hm2 : (m : Int) ≤ 64 := by omega
  clear h hmem p0 ht h16 h64 h2 hlb hlc
  go_enter Tryd.func5, Tryd.ntmps5
  go_wp2_with fail
  refine calls_abs (fun W => Ext w W ∧ Blk_ W w.heap.size 25 #[.slice none 0 0]) ⟨(Ext.refl _).alloc _, Blk_.new _ _ _⟩ ?_
  rintro w1 ⟨hx1, hb1⟩
  obtain ⟨b4, hb4⟩ : ∃ b4, b4 = w.heap.size := ⟨_, rfl⟩
  rw [← hb4] at hb1 ⊢
  refine (arrNew_any (m : Int) w1 (by unfold I64; omega)).mono ?_
  rintro e w2 ⟨A, c, rfl, hx2, ho2⟩
  have hna : newArrS (m : Int) = ([freshDev m 0, freshDev m 0, freshDev (m / 2) 512], 0) := HNA.out
  rw [hna] at ho2 ⊢
  have H4 := Lib.hid hb4
  have HX2 := Lib.hid (hx1.trans hx2)
  have HB2 := Lib.hid (hb1.ext hx2)
  have HR2 := Lib.hid (show OArr 63 w2 w1.heap.size (.slice A 3 c) [freshDev m 0, freshDev m 0, freshDev (m / 2) 512] from ho2)
  have HBB := Lib.hid (show b4 < w1.heap.size from hb1.lt)
  have HF2 := Lib.hid (full_new HN.out.1 HN.out.2.1 HN.out.2.2)
  simp only [List.length_cons, List.length_nil, Nat.zero_add, Nat.reduceAdd]
  obtain ⟨a, ha⟩ : ∃ a, a = [freshDev m 0, freshDev m 0, freshDev (m / 2) 512] := ⟨_, rfl⟩
  rw [← ha] at HR2 HF2
  clear hna ho2 ha hx1 hx2 hb1 hb4 HNA
  go_wp2_with fail
  refine calls_abs (fun W => Ext w2 W ∧ Blk_ W w2.heap.size 25 #[.slice A 3 c]) ⟨(Ext.refl _).alloc _, Blk_.new _ _ _⟩ ?_
  rintro w3 ⟨hx3, hb3⟩
  obtain ⟨b7, hb7⟩ : ∃ b7, b7 = w2.heap.size := ⟨_, rfl⟩
  rw [← hb7] at hb3 ⊢
  have H47 := Lib.hid (show b4 < b7 by rw [hb7]; exact HB2.out.lt)
  refine (repeat_any 24 w3 (by decide) (by decide)).mono ?_
  rintro e w4 ⟨rfl, hx4⟩
  obtain ⟨Z, hZ⟩ : ∃ Z, Z = bs (List.replicate 24 (0 : UInt8)) := ⟨_, rfl⟩
  rw [show bs (List.replicate (24 : Int).toNat (0 : UInt8)) = Z from hZ.symm]
  have HZ := Lib.hid hZ
  have HX4 := Lib.hid (HX2.out.trans (hx3.trans hx4))
  have HB4 := Lib.hid (HB2.out.ext (hx3.trans hx4))
  have HB7 := Lib.hid (hb3.ext hx4)
  have HR4 := Lib.hid (HR2.out.ext (hx3.trans hx4))
  have HS := Lib.hid (show w.heap.size ≤ b7 by rw [hb7]; exact HX2.out.size)
  clear hx3 hx4 hb3 hZ HX2 HB2 HR2 hb7
  go_wp2_with fail
  refine calls_abs (fun W => Ext w4 W ∧ Blk_ W w4.heap.size 9 #[.string Z]) ⟨(Ext.refl _).alloc _, Blk_.new _ _ _⟩ ?_
  rintro w5 ⟨hx5, hb5⟩
  refine (repS_any Z m w4.heap.size 1 w5 hb5 (by have := HN.out; omega) (by have := HN.out; omega)).mono ?_
  rintro e w6 ⟨g, rfl, hx6, hg6, hb6⟩
  have HF := Lib.hid (show FX w w6 b4 b7 g A c a m (List.replicate m Z) from ⟨HX4.out.trans (hx5.trans hx6), HB4.out.ext (hx5.trans hx6), HB7.out.ext (hx5.trans hx6), Strs.rep hb6, ⟨w1.heap.size, HBB.out, HR4.out.ext (hx5.trans hx6)⟩, by rw [HZ.out]; exact HF2.out⟩)
  have HG := Lib.hid (show b4 < b7 ∧ b7 < g ∧ w.heap.size ≤ b7 ∧ w.heap.size ≤ b4 ∧ w.heap.size ≤ g by
    have := HB7.out.lt
    have h5 := hx5.size
    have h6 := HS.out
    exact ⟨H47.out, by omega, h6, by rw [H4.out]; exact Nat.le_refl _, by omega⟩)
  clear hx5 hx6 hg6 hb5 hb6 HX4 HB4 HB7 HR4 HS H4 H47 HF2
  go_wp2_with fail
  go_loopw [10, 11] (fun pv kv wr => ∃ (k : Nat) (A : Option Addr) (c : Nat) (a : List Dev) (all : List ByteArray), pv = .bool true ∧ kv = .int .i64 k ∧ k ≤ 30 ∧ k ≤ l.length ∧ FX w wr b4 b7 g A c a m all) (fun _ kv _ => 30 - (intOf kv).toNat)
  case atStart => exact ⟨0, A, c, a, _, rfl, rfl, by omega, by omega, HF.out⟩
  case round =>
    clear HF
    obtain ⟨k, A, c, a, all, rfl, rfl, hk30, hkl, hF⟩ := hrel
    have HF := Lib.hid hF
    clear hF
    by_cases hlt : k < l.length
    · by_cases h30 : k < 30
      · have hltI : (k : Int) < (l.length : Int) := by omega
        have h30I : (k : Int) < 30 := by omega
        obtain ⟨b, o, rfl, hcell⟩ := HP.out k hlt
        obtain ⟨r, hr⟩ : ∃ r, r = l[k] := ⟨_, rfl⟩
        have hI := (HM.out _ (List.getElem_mem hlt)).2
        rw [← hr] at hI
        have q0 := HF.out.ext.cell (hcell k hlt 0 _ rfl)
        have q1 := HF.out.ext.cell (hcell k hlt 1 _ rfl)
        have q2 := HF.out.ext.cell (hcell k hlt 2 _ rfl)
        have q3 := HF.out.ext.cell (hcell k hlt 3 _ rfl)
        rw [← hr] at q0 q1 q2 q3
        simp only [Nat.add_zero] at q0
        have HI := Lib.hid hI
        have HK := Lib.hid (And.intro hlt h30)
        clear hcell hr hI hlt h30 hk30 hkl
        go_wp2_with fail
        refine (picked_any r.c m wr HI.out.2.2.2 (by omega) (by omega)).mono ?_
        rintro e wz ⟨rfl, hw⟩
        obtain rfl := hw.symm
        have hpr := pick_range r.c m (by omega)
        obtain ⟨n, hn⟩ := Int.eq_ofNat_of_zero_le hpr.1
        rw [hn] at hpr ⊢
        have hnm : (n : Int) < (m : Int) := hpr.2
        have HNM := Lib.hid (show n < m by omega)
        clear hpr hn
        go_wp2_with fail
        refine (data_any r wr HI.out (HT.out.ext HF.out.ext)).mono ?_
        rintro e w2 ⟨s, rfl, hsz, hx2⟩
        have HF2 := Lib.hid (HF.out.up hx2)
        have HSZ := Lib.hid hsz
        have hszI : (s.size : Int) ≤ 200 := by omega
        clear q0 q1 q2 q3 hx2 HF hsz
        obtain ⟨u, hu⟩ : ∃ u, u = min s.size 24 := ⟨_, rfl⟩
        have hu1I : (u : Int) ≤ (s.size : Int) := by omega
        have hu4 : (u : Int) ≤ 24 := by omega
        have hmin : min (s.size : Int) 24 = (u : Int) := by omega
        obtain ⟨q, hq⟩ : ∃ q, q = s.extract 0 u := ⟨_, rfl⟩
        have HQ6 := Lib.hid (show q.size ≤ 24 by rw [hq, ByteArray.size_extract]; omega)
        have HQ := Lib.hid hq
        clear hu hq
        have f7 := HF2.out.r7.cell 0
        simp at f7
        go_wp2_with fail
        rw [← HQ.out]
        obtain ⟨d, hwr, hfull⟩ := HF2.out.full.write HN.out.1 HN.out.2.1 HN.out.2.2 HNM.out HQ6.out
        refine (arrWrite_any [.slice A 3 c] a n q w2 HF2.out.rarr (by unfold I64; omega) (by have := HQ6.out; omega)).mono ?_
        rintro e w3 ⟨A', c', rfl, hx3, ho3⟩
        have hd3 := hfull.good.len
        rw [hwr] at ho3 ⊢
        simp only at ho3 ⊢
        rw [hd3] at ho3 ⊢
        have HO3 := Lib.hid ho3
        have HFU := Lib.hid hfull
        have j7 := (HF2.out.r7.ext hx3).cell 0
        have z7 := (HF2.out.r7.ext hx3).frozen 0
        simp at j7
        have l7 := (HF2.out.r7.ext hx3).lt
        have HX3 := Lib.hid hx3
        have HB2 := Lib.hid (show b7 < w2.heap.size ∧ b4 < w2.heap.size ∧ g < w2.heap.size from ⟨HF2.out.r7.lt, HF2.out.r4.lt, Blk_.lt HF2.out.strs⟩)
        have hq24 : (q.size : Int) ≤ 24 := by have := HQ6.out; omega
        clear f7 hwr hfull hd3 ho3 hx3 hu1I hu4 hmin
        go_wp2_with fail
        refine calls_abs (fun W => Ext w W ∧ Blk_ W b4 25 #[.slice none 0 0] ∧ Blk_ W b7 25 #[.slice A' 3 c'] ∧ Strs W g all ∧ OArr 63 W w2.heap.size (.slice A' 3 c') d) ⟨?_, ?_, ?_, ?_, ?_⟩ ?_
        · exact ((HF2.out.ext.trans HX3.out).setCell (p := ⟨b7, 0, none⟩) (by have := HG.out; dsimp only; omega) _).alloc _
        · exact ((HF2.out.r4.ext HX3.out).far (p := ⟨b7, 0, none⟩) (by have := HG.out; dsimp only; omega) _).alloc _
        · exact ((HF2.out.r7.ext HX3.out).set 0 _).alloc _
        · exact ((HF2.out.strs.ext HX3.out).far (p := ⟨b7, 0, none⟩) (by have := HG.out; dsimp only; omega) _).ext ((Ext.refl _).alloc _)
        · exact (HO3.out.far (p := ⟨b7, 0, none⟩) (by have := HB2.out; dsimp only; omega) _).ext ((Ext.refl _).alloc _)
        rintro w4 ⟨hx4, h44, h47, hs4, ho4⟩
        have HX4 := Lib.hid hx4
        have H44 := Lib.hid h44
        have H47 := Lib.hid h47
        have HS4 := Lib.hid hs4
        have HO4 := Lib.hid ho4
        clear hx4 h44 h47 hs4 ho4 j7 z7 l7 HX3 HO3
        refine (repeat_any (24 - (q.size : Int)) w4 (by omega) (by omega)).mono ?_
        rintro e w5 ⟨rfl, hx5⟩
        obtain ⟨P, hP⟩ : ∃ P, P = padS q := ⟨_, rfl⟩
        have HPD := Lib.hid hP
        rw [show (24 - (q.size : Int)).toNat = 24 - q.size by omega]
        obtain ⟨Y, hY⟩ : ∃ Y, Y = bs (List.replicate (24 - q.size) (0 : UInt8)) := ⟨_, rfl⟩
        rw [← hY]
        have hYP : q ++ Y = P := by rw [hP, hY]; exact pad_join q
        have hYs : q.size + Y.size ≤ 9223372036854775807 := by rw [hY, size_bs, List.length_replicate]; omega
        have hal : all.length = m := HF2.out.full.len
        have gc := (HS4.out.ext hx5).cell (n := n) (by have := HNM.out; omega)
        have gz := Blk_.frozen (HS4.out.ext hx5) n
        have HX5 := Lib.hid hx5
        clear hP hY hal hx5
        go_wp2_with fail
        have HFX := Lib.hid (show FX w (w5.setCell ⟨g, n, none⟩ (.string P)) b4 b7 g A' c' d m (all.set n P) from by
          have hgg := HG.out
          have hbb := HB2.out
          refine ⟨(HX4.out.trans HX5.out).setCell (by dsimp only; omega) _, (H44.out.ext HX5.out).far (by dsimp only; omega) _, (H47.out.ext HX5.out).far (by dsimp only; omega) _, (HS4.out.ext HX5.out).set n P, ?_, ?_⟩
          · exact ⟨w2.heap.size, by omega, (HO4.out.ext HX5.out).far (p := ⟨g, n, none⟩) (by dsimp only; omega) (.string P)⟩
          · rw [HPD.out]; exact HFU.out)
        go_roundw
        case rel => exact ⟨k + 1, A', c', d, all.set n P, by first | rfl | simp, by first | rfl | go_num, by have := HK.out; omega, by have := HK.out; omega, HFX.out⟩
        case measure => have := HK.out; (simp [intOf]; try omega)
      · have hltI : (k : Int) < (l.length : Int) := by omega
        have h9I : (30 : Int) ≤ (k : Int) := by omega
        clear hlt h30 hk30 hkl
        have hI0 := HF.out.r7.cell 0
        have hI1 := HF.out.r4.cell 0
        have hI2 := HF.out.r4.frozen 0
        simp at hI0 hI1
        go_wp2_with fail
        have HB := Lib.hid (HF.out.r4.set 0 (.slice A 3 c))
        have HXX := Lib.hid (HF.out.ext.setCell (p := ⟨b4, 0, none⟩) HG.out.2.2.2.1 (.slice A 3 c))
        have HSS := Lib.hid (HF.out.strs.far (p := ⟨b4, 0, none⟩) (by have := HG.out; dsimp only; omega) (.slice A 3 c))
        have HRR := Lib.hid (show RArr (wr.setCell ⟨b4, 0, none⟩ (.slice A 3 c)) [.slice A 3 c] a from by
          obtain ⟨bb, hbb, ho⟩ := HF.out.arr
          exact (ho.far (p := ⟨b4, 0, none⟩) hbb (.slice A 3 c)).rarr (by rw [HF.out.full.good.len]; decide))
        refine bodyPost_ret (res_cell_tmp2 rfl rfl HB.out Tryd.underlying25 rfl (by kernel_rfl)) rfl ?_
        exact ⟨A, c, g, a, all, rfl, HXX.out, HG.out.2.2.2.2, HSS.out, HRR.out, HF.out.full⟩
    · have hltI : (l.length : Int) ≤ (k : Int) := by omega
      clear hlt hk30 hkl
      have hI0 := HF.out.r7.cell 0
      have hI1 := HF.out.r4.cell 0
      have hI2 := HF.out.r4.frozen 0
      simp at hI0 hI1
      go_wp2_with fail
      have HB := Lib.hid (HF.out.r4.set 0 (.slice A 3 c))
      have HXX := Lib.hid (HF.out.ext.setCell (p := ⟨b4, 0, none⟩) HG.out.2.2.2.1 (.slice A 3 c))
      have HSS := Lib.hid (HF.out.strs.far (p := ⟨b4, 0, none⟩) (by have := HG.out; dsimp only; omega) (.slice A 3 c))
      have HRR := Lib.hid (show RArr (wr.setCell ⟨b4, 0, none⟩ (.slice A 3 c)) [.slice A 3 c] a from by
        obtain ⟨bb, hbb, ho⟩ := HF.out.arr
        exact (ho.far (p := ⟨b4, 0, none⟩) hbb (.slice A 3 c)).rarr (by rw [HF.out.full.good.len]; decide))
      refine bodyPost_ret (res_cell_tmp2 rfl rfl HB.out Tryd.underlying25 rfl (by kernel_rfl)) rfl ?_
      exact ⟨A, c, g, a, all, rfl, HXX.out, HG.out.2.2.2.2, HSS.out, HRR.out, HF.out.full⟩
end Go.Proofs.YtgjijcgkmofaaaaDoor

/-
  arraskeep.reads: an array tells these payloads: true. Conditions: it does, in plain Lean.
-/
namespace Go.Proofs.YtgjijcgkmofaaaaDoor
set_option linter.unusedSimpArgs false
set_option linter.unusedVariables false
open Go.RowKit

set_option maxRecDepth 100000 in
set_option maxHeartbeats 4000000 in
theorem reads_any (v : Value) (a : List Dev) (all : List ByteArray) (g : Nat) (m : Nat) (w : World) (h : RArr w [v] a) (hs : Strs w g all) (hl : all.length = m) (h64 : m ≤ 64) (hr : ∀ n : Nat, n < m → ∃ how, arrReadS a n = (pl all n, how, 0)) :
    Calls Tryd.prog 11 #[.agg #[v], .slice (some ⟨g, 0, none⟩) m m] w fun e w' => e = .returned (.bool true) ∧ Ext w w' := by
  have HH := Lib.hid h
  have HS := Lib.hid hs
  have HL := Lib.hid hl
  have HR := Lib.hid hr
  have hm2 : (m : Int) ≤ 64 := by omega
  have HM := Lib.hid h64
  clear h hs hl hr h64
  go_enter Tryd.func11, Tryd.ntmps11
  go_wp2_with fail
  refine wp_abs (fun W => Ext w W ∧ Blk_ W w.heap.size 25 #[v]) ⟨(Ext.refl _).alloc _, Blk_.new _ _ _⟩ ?_
  rintro W ⟨hx, hb⟩
  obtain ⟨b, hbb⟩ : ∃ b, b = w.heap.size := ⟨_, rfl⟩
  rw [← hbb] at hb ⊢
  clear hbb
  go_loopw [12] (fun kv wr => ∃ (k : Nat), kv = .int .i64 k ∧ k ≤ m ∧ Ext w wr ∧ Blk_ wr b 25 #[v]) (fun kv _ => m - (intOf kv).toNat)
  case atStart => exact ⟨0, rfl, Nat.zero_le _, hx, hb⟩
  case round =>
    clear hx hb
    obtain ⟨k, rfl, hk, hx, hb⟩ := hrel
    have HX := Lib.hid hx
    have HB := Lib.hid hb
    by_cases hlt : k < m
    · have hki : (k : Int) < (m : Int) := by omega
      have gc := (HS.out.ext hx).cell (n := k) (by have := HL.out; omega)
      have f0 := hb.cell 0
      simp at f0
      obtain ⟨how, he⟩ := HR.out k hlt
      have HE := Lib.hid he
      have HK := Lib.hid hlt
      clear hx hb hk hlt he
      go_wp2_with fail
      refine (arrRead_any [v] a k wr (HH.out.up HX.out) (by have := HM.out; have := HK.out; unfold I64; omega)).mono ?_
      rintro e w2 ⟨rfl, hx2⟩
      rw [HE.out]
      have HX2 := Lib.hid (HX.out.trans hx2)
      have HB2 := Lib.hid (HB.out.ext hx2)
      obtain ⟨s, hs⟩ : ∃ s, s = pl all k := ⟨_, rfl⟩
      rw [← hs] at gc ⊢
      clear hx2 hs gc f0 HX HB
      go_wp2_with fail
      go_roundw
      case rel => exact ⟨k + 1, by first | rfl | go_num, by have := HK.out; omega, HX2.out, HB2.out⟩
      case measure => have := HK.out; (simp [intOf]; try omega)
    · have hki : (m : Int) ≤ (k : Int) := by omega
      clear hx hb hlt
      go_wp2_with fail
      go_ret
      exact ⟨rfl, HX.out⟩
end Go.Proofs.YtgjijcgkmofaaaaDoor
