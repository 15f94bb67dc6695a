/-
  Rows of acts with the slices of their files, and rows of such rows, as values in memory hold them; slices.Concat over these. Conditions: at most 1000 acts.
-/
import Derived.Test.YtgjijcgkmofaaaaGreatDoorQ24
import Derived.Lib.AppendZeros
namespace Go.Proofs.YtgjijcgkmofaaaaGreatDoor
set_option linter.unusedSimpArgs false
set_option linter.unusedVariables false
set_option maxRecDepth 100000
set_option maxHeartbeats 8000000
open Go.RowKit
structure ActV where
 a : ActD
 A : Option Addr
 c : Nat
def ActV.f (x : ActV) : Value := .slice x.A x.a.files.length x.c
def encActV (x : ActV) : List Value := [.int .i64 x.a.kind, x.f, .string x.a.name, .int .i64 x.a.d, .int .i64 x.a.n, .int .i64 x.a.at_, .int .i64 x.a.by_]
def RActV : Rd ActV := fun _ cs x => cs = encActV x ∧ x.a.name.size ≤ 140737488355328 ∧ I64 x.a.kind ∧ I64 x.a.d ∧ I64 x.a.n ∧ I64 x.a.at_ ∧ I64 x.a.by_
theorem encActV_ok : Enc 7 RActV encActV := ⟨fun _ => rfl, fun _ _ _ h => h.1, fun _ _ _ _ h => h, fun x u h => by
 simp only [encActV, ActV.f, List.mem_cons, List.not_mem_nil, or_false] at h
 rcases h with h | h | h | h | h | h | h <;> subst h <;> rfl⟩
theorem RActV.stays : Stays RActV := fun _ _ _ _ h _ => h
def ActsR (w : World) (v : Value) (L : List ActV) : Prop := SlR 7 80 RActV w v L ∧ ∀ y ∈ L, SlR 2 32 RFil w y.f y.a.files
theorem ActsR.ext {w w' : World} {v : Value} {L : List ActV} (h : ActsR w v L) (k : Ext w w') : ActsR w' v L := ⟨h.1.ext RActV.stays k, fun y hy => (h.2 y hy).ext RFil.stays k⟩
theorem ActsR.acts {w : World} {v : Value} {L : List ActV} (h : ActsR w v L) : SlR 7 80 RAct w v (L.map (·.a)) := by
 obtain ⟨⟨A, cap, hv, hb, hc, hl⟩, hf⟩ := h
 refine ⟨A, cap, by rw [List.length_map]; exact hv, by rw [List.length_map]; exact hb, by rw [List.length_map]; exact hc, ?_⟩
 rcases hl with hl | ⟨b, o, hA, hl⟩
 ·exact .inl (by rw [hl]; rfl)
 ·refine .inr ⟨b, o, hA, fun i hi => ?_⟩
  have hi' : i < L.length := by simpa using hi
  obtain ⟨cs, h1, h2, h3, h4⟩ := hl i hi'
  refine ⟨cs, h1, h2, L[i].f, ?_, ?_, ?_⟩
  ·rw [h3, List.getElem_map]; rfl
  ·rw [List.getElem_map]; exact hf _ (List.getElem_mem hi')
  ·rw [List.getElem_map]; exact h4
structure ActsV where
 A : Option Addr
 c : Nat
 L : List ActV
def ActsV.v (x : ActsV) : Value := .slice x.A x.L.length x.c
def encActsV (x : ActsV) : List Value := [x.v]
def RActsV : Rd ActsV := fun _ cs x => cs = encActsV x
theorem encActsV_ok : Enc 1 RActsV encActsV := ⟨fun _ => rfl, fun _ _ _ h => h, fun _ _ _ _ h => h, fun x u h => by
 simp only [encActsV, ActsV.v, List.mem_cons, List.not_mem_nil, or_false] at h
 subst h; rfl⟩
theorem RActsV.stays : Stays RActsV := fun _ _ _ _ h _ => h
theorem zeros_len (z : Array Value) (n : Nat) : (Builtin.zeroCells z n).size = n * z.size := by unfold Builtin.zeroCells; simp
section
variable {P : Program} (w : World)
theorem run_append_own_empty (base : Nat) (t ty e : TypeId) (i : TypeInfo) (size c : Nat) (ht : P.underlying t = some (.slice e)) (hi : P.info? e = some i)
  (v : Value) (n : Nat) (xs : List Value) (hown : w.ownsRow base e size v n xs) :
  (Builtin.append_ #[t, t] ty #[v, .slice none 0 c]).run P w = .ok v w := by
 rcases hown.2 with ⟨rfl, rfl⟩ | ⟨g, cap, cur, rfl, _, _, hnc, _⟩
 ·simp [Builtin.append_, run_underlying ht, sizeOf, typeInfo, hi, Builtin.lenOf, Builtin.firstCells]
 ·simp [Builtin.append_, run_underlying ht, sizeOf, typeInfo, hi, Builtin.lenOf, Builtin.firstCells, hnc, storeCells]
theorem wp_slice_from {o : Oper} {a : Act} {K : Act → World → Prop} {Q : Exit → Act → World → Prop} (x y : Operand) (t : TypeId) (ho : o.op = .slice t x (some y) none none) (C : Nat)
  (e : TypeId) (i : TypeInfo) (ht : P.underlying t = some (.slice e)) (hi : P.info? e = some i) (hC : i.size = C) (A : Option Addr) (n c k : Nat) (hx : a.eval x = .slice A n c) (hy : a.eval y = .int .i64 (k : Int)) (hk : k ≤ n) (A' : Option Addr) (c' : Nat) (hA : (if c = k then A else A.map (·.add (k * C))) = A') (hc : c - k = c')
  (h : K (a.put o.dst (.slice A' (n - k) c')) w) : o.wp P a w K Q := by
 unfold Oper.wp execOp
 have he : P.elem t = e := by unfold Program.elem; rw [ht]
 have ht' : P.underlying t = some (.slice (P.elem t)) := by rw [he]; exact ht
 have hz : (sizeOf (P.elem t)).run P w = .ok C w := by rw [he]; simp [sizeOf, typeInfo, hi, hC]
 have hr := run_slice_l (P := P) (w := w) t A n c ht' .i64 (k : Int) (by omega) (by omega)
 simp only [ho, Option.map, hx, hy, Sem.run_bind, Sem.run_pure, Result.andThen_ok, run_sliceAt_slice w t _ _ _ _ ht', hr, hz, sliced, Int.toNat_natCast]
 subst hA; subst hc
 exact h
theorem wpList_slice_from {ops : Array Oper} {rest : List Oper} {o : Oper} {a : Act} {Q : Exit → Act → World → Prop} (hgd : o.guard = none) (x y : Operand) (t : TypeId) (ho : o.op = .slice t x (some y) none none) (C : Nat)
  (e : TypeId) (i : TypeInfo) (ht : P.underlying t = some (.slice e)) (hi : P.info? e = some i) (hC : i.size = C) (A : Option Addr) (n c k : Nat) (hx : a.eval x = .slice A n c) (hy : a.eval y = .int .i64 (k : Int)) (hk : k ≤ n) (A' : Option Addr) (c' : Nat) (hA : (if c = k then A else A.map (·.add (k * C))) = A') (hc : c - k = c')
  (h : wpList P ops Q rest (a.put o.dst (.slice A' (n - k) c')) w) : wpList P ops Q (o :: rest) a w :=
 wpList_plain hgd fun _ hK => wp_slice_from w x y t ho C e i ht hi hC A n c k hx hy hk A' c' hA hc (hK _ _ h)
theorem wp_append_onto {α : Type} {C bytes : Nat} {R : Rd α} {enc : α → List Value} (he : Enc C R enc) (hC : 0 < C) {o : Oper} {a : Act} {K : Act → World → Prop} {Q : Exit → Act → World → Prop} (s x : Operand) (t : TypeId)
  (ho : o.op = .call { callee := .builtin .append, args := #[s, x], argTypes := #[t, t] })
  (base : Nat) (e : TypeId) (i : TypeInfo) (z : Value) (ht : P.underlying t = some (.slice e)) (hi : P.info? e = some i) (hz : i.zero = some z)
  (hsize : i.size = C) (hby : i.bytes = bytes) (hzs : z.cells.size = C) (v0 : Value) (n : Nat) (xs : List Value) (hs : a.eval s = v0) (hown : w.ownsRow base e C v0 n xs)
  (v : Value) (l : List α) (hx : a.eval x = v) (hv : SlR C bytes R w v l) (h63 : n + l.length ≤ maxLen) (hbytes : (n + l.length) * bytes ≤ 140737488355328) (hbase : base ≤ w.heap.size)
  (h : ∀ A' c' w', w'.ownsRow base e C (.slice A' (n + l.length) c') (n + l.length) (xs ++ l.flatMap enc) → w.grownBy w' v0.ownBlock → ((Value.slice A' (n + l.length) c').ownBlock = v0.ownBlock ∨ (Value.slice A' (n + l.length) c').ownBlock = some w.heap.size) → K (a.put o.dst (.slice A' (n + l.length) c')) w') : o.wp P a w K Q := by
 obtain ⟨A, cap, rfl, hb, hc, hl⟩ := hv.cells he hC
 clear hv
 cases A with
 | none =>
  have hl0 : l = [] := by rcases hl with h | ⟨b, o, h, _⟩; exact h; cases h
  subst hl0
  have hrun := run_append_own_empty (P := P) w base t o.type e i C cap ht hi v0 n xs hown
  obtain ⟨A', c', rfl⟩ := own_slice hown
  unfold Oper.wp execOp
  simp only [ho, resolve, invoke, builtin, Sem.run_bind, Sem.run_pure, Result.andThen_ok, List.map_toArray, List.map_cons, List.map_nil, hs, hx, List.length_nil, hrun]
  exact h A' c' w (by simpa using hown) (World.grownBy.refl _ _) (.inl rfl)
 | some ad =>
  have hcells : ∀ (j : Nat) (u : Value), (l.flatMap enc)[j]? = some u → w.cell? (ad.add j) = some u := by
   rcases hl with h | ⟨b, o, h, hc, _⟩
   ·subst h; intro j u hu; simp at hu
   ·cases h; exact hc
  exact wp_append_at w s x t ho base e i z C bytes ht hi hz hsize hby hzs hC v0 n xs hs hown ad l.length cap (l.flatMap enc) hx (length_flatMap he.len l) hcells
   (fun u hu => by obtain ⟨y, _, hy⟩ := List.mem_flatMap.1 hu; exact he.one y u hy) h63 hbytes hbase h
theorem wpList_append_onto {α : Type} {C bytes : Nat} {R : Rd α} {enc : α → List Value} (he : Enc C R enc) (hC : 0 < C) {ops : Array Oper} {rest : List Oper} {o : Oper} {a : Act} {Q : Exit → Act → World → Prop} (hgd : o.guard = none) (s x : Operand) (t : TypeId)
  (ho : o.op = .call { callee := .builtin .append, args := #[s, x], argTypes := #[t, t] })
  (base : Nat) (e : TypeId) (i : TypeInfo) (z : Value) (ht : P.underlying t = some (.slice e)) (hi : P.info? e = some i) (hz : i.zero = some z)
  (hsize : i.size = C) (hby : i.bytes = bytes) (hzs : z.cells.size = C) (v0 : Value) (n : Nat) (xs : List Value) (hs : a.eval s = v0) (hown : w.ownsRow base e C v0 n xs)
  (v : Value) (l : List α) (hx : a.eval x = v) (hv : SlR C bytes R w v l) (h63 : n + l.length ≤ maxLen) (hbytes : (n + l.length) * bytes ≤ 140737488355328) (hbase : base ≤ w.heap.size)
  (h : ∀ A' c' w', w'.ownsRow base e C (.slice A' (n + l.length) c') (n + l.length) (xs ++ l.flatMap enc) → w.grownBy w' v0.ownBlock → ((Value.slice A' (n + l.length) c').ownBlock = v0.ownBlock ∨ (Value.slice A' (n + l.length) c').ownBlock = some w.heap.size) → wpList P ops Q rest (a.put o.dst (.slice A' (n + l.length) c')) w') : wpList P ops Q (o :: rest) a w :=
 wpList_plain hgd fun _ hK => wp_append_onto w he hC s x t ho base e i z ht hi hz hsize hby hzs v0 n xs hs hown v l hx hv h63 hbytes hbase fun A' c' w' h2 h3 h4 => hK _ _ (h A' c' w' h2 h3 h4)
end
theorem grow_any (n : Nat) (w : World) (hn : n ≤ 1000) :
  Calls Tryz.prog 67 #[.slice none 0 0, .int .i64 (n : Int)] w fun e w' => ∃ A c, e = .returned (.slice A 0 c) ∧ Ext w w' ∧ w'.ownsRow w.heap.size 39 7 (.slice A 0 c) 0 [] := by
 obtain ⟨i1, hi0, hz0, hz1, hz2⟩ := info_parts info_act
 have hnI : (n : Int) ≤ 1000 := by omega
 have h0I : ¬ ((n : Int) < 0) := by omega
 by_cases h0 : n = 0
 ·subst h0
  go_enter Tryz.func67, Tryz.ntmps67
  go_wp2_with fail
  go_ret
  exact ⟨none, 0, rfl, Ext.refl _, World.ownsRow_nil _ _ _ _⟩
 ·have hpos : (0 : Int) < (n : Int) := by omega
  have hrun := Lib.run_append_nil_zeros w 23 3 23 39 i1 _ .i64 .i64 Tryz.underlying23 Tryz.underlying3 hi0 hz0 n (by omega) (by rw [hz1]; decide) (by omega) (by rw [hz2]; omega)
  have hcap := grownCap_ge w n 0 39
  have hcap2 := grownCap_le_maxLen w n 0 39 (by unfold maxLen; omega)
  obtain ⟨cp, hcp⟩ : ∃ c, c = grownCap w n 0 39 := ⟨_, rfl⟩
  rw [← hcp] at hrun hcap hcap2
  obtain ⟨cs, hcs⟩ : ∃ c, c = Builtin.zeroCells (Value.agg #[.int .i64 0, .slice none 0 0, .string .empty, .int .i64 0, .int .i64 0, .int .i64 0, .int .i64 0]).cells n ++ Builtin.zeroCells (Value.agg #[.int .i64 0, .slice none 0 0, .string .empty, .int .i64 0, .int .i64 0, .int .i64 0, .int .i64 0]).cells (cp - n) := ⟨_, rfl⟩
  rw [← hcs] at hrun
  have HR := Lib.hid hrun
  have HC := Lib.hid (And.intro hcap (And.intro hcap2 hcs))
  clear hrun hcap hcap2 hcs hcp hi0 hz0 hz1 hz2
  go_enter Tryz.func67, Tryz.ntmps67
  go_wp2_with (at_builtin; refine Lib.wpList_append_run _ rfl _ _ _ _ rfl _ _ rfl rfl _ _ HR.out ?_)
  go_ret
  refine ⟨some ⟨w.heap.size, 0, none⟩, cp, rfl, ((Ext.refl w).alloc _).drew, ?_⟩
  refine ⟨by simp, .inr ⟨w.heap.size, cp, cs, rfl, Nat.le_refl _, heap_alloc_new w _, Nat.zero_le _, HC.out.2.1, ?_, by simp⟩⟩
  rw [HC.out.2.2, Array.size_append, zeros_len, zeros_len, ← Nat.add_mul]
  have := HC.out.1
  rw [show n + (cp - n) = cp by omega]
  rfl
def flatV (LL : List ActsV) : List ActV := LL.flatMap (·.L)
theorem flatV_succ (LL : List ActsV) (k : Nat) (hk : k < LL.length) : flatV (LL.take (k + 1)) = flatV (LL.take k) ++ LL[k].L := by
 unfold flatV
 rw [List.take_succ_eq_append_getElem hk, List.flatMap_append]
 simp
theorem flatV_le (LL : List ActsV) (k : Nat) : (flatV (LL.take k)).length ≤ (flatV LL).length := by
 have e : flatV LL = flatV (LL.take k) ++ flatV (LL.drop k) := by
  unfold flatV
  rw [← List.flatMap_append, List.take_append_drop]
 rw [e, List.length_append]
 omega
theorem concat_any (v : Value) (LL : List ActsV) (w : World) (h : SlR 1 24 RActsV w v LL) (hL : ∀ x ∈ LL, SlR 7 80 RActV w x.v x.L) (hn : (flatV LL).length ≤ 1000) (hl5 : LL.length ≤ 1000) :
  Calls Tryz.prog 35 #[v] w fun e w' => ∃ A c, e = .returned (.slice A (flatV LL).length c) ∧ Ext w w' ∧ w'.ownsRow w.heap.size 39 7 (.slice A (flatV LL).length c) (flatV LL).length ((flatV LL).flatMap encActV) := by
 obtain ⟨Av, cv, rfl, hlb, hlc, p0⟩ := h.rowE encActsV_ok
 have HP := Lib.hid p0
 have HLL := Lib.hid hL
 have HN := Lib.hid hn
 obtain ⟨i1, hi0, hz0, hz1, hz2⟩ := info_parts info_act
 have HIE := Lib.hid (And.intro hi0 (And.intro hz0 (And.intro hz1 hz2)))
 have hlI : (LL.length : Int) ≤ 1000 := by omega
 clear h hL hn hlb hlc p0 hi0 hz0 hz1 hz2 hl5
 go_enter Tryz.func35, Tryz.ntmps35
 go_wp2_with fail
 go_loopw [3, 5, 11] (fun sv _ kv wr => ∃ (k n : Nat), sv = .int .i64 (n : Int) ∧ kv = .int .i64 (k : Int) ∧ k ≤ LL.length ∧ n = (flatV (LL.take k)).length ∧ Ext w wr) (fun _ _ kv _ => LL.length - (intOf kv).toNat)
 case atStart => exact ⟨0, 0, rfl, rfl, Nat.zero_le _, rfl, Ext.refl _⟩
 case round =>
  obtain ⟨k, n, rfl, rfl, hk, hnn, hx⟩ := hrel
  have HX := Lib.hid hx
  have HNN := Lib.hid hnn
  have hn1 : n ≤ 1000 := by have := flatV_le LL k; have := HN.out; omega
  have hnI : (n : Int) ≤ 1000 := by omega
  clear hx hnn
  by_cases hlt : k < LL.length
  ·have hltI : (k : Int) < (LL.length : Int) := by omega
   obtain ⟨b, o, rfl, hc⟩ := HP.out k hlt
   have r0 := HX.out.cell (hc k hlt 0 _ rfl)
   obtain ⟨X, hX⟩ : ∃ X, X = LL[k] := ⟨_, rfl⟩
   have hfl : (flatV (LL.take (k + 1))).length = n + X.L.length := by rw [flatV_succ LL k hlt, List.length_append, ← hX, ← HNN.out]
   rw [← hX] at r0
   have r1 : wr.cell? ⟨b, o + k, none⟩ = some (.slice X.A X.L.length X.c) := by simpa [ActsV.v] using r0
   have hle := flatV_le LL (k + 1)
   rw [hfl] at hle
   have HFL := Lib.hid hfl
   have HLT := Lib.hid hlt
   have hsI : (n : Int) + (X.L.length : Int) ≤ 1000 := by have := HN.out; omega
   have hs0 : ¬ ((n : Int) + (X.L.length : Int) < 0) := by omega
   have hxl : (X.L.length : Int) ≤ 1000 := by omega
   clear hc r0 hX hfl hle hlt hk
   go_wp2_with fail
   go_roundw
   case rel => exact ⟨k + 1, n + X.L.length, by first | rfl | go_num, by first | rfl | go_num, by have := HLT.out; omega, HFL.out.symm, HX.out⟩
   case measure => have := HLT.out; (simp [intOf]; try omega)
  ·obtain rfl : k = LL.length := by omega
   have hne : n = (flatV LL).length := by have := HNN.out; rwa [List.take_length] at this
   have HNE := Lib.hid hne
   clear hlt hk hne HNN
   go_wp2_with fail
   refine (grow_any n wr hn1).mono ?_
   rintro e w1 ⟨A1, c1, rfl, hx1, ho1⟩
   have HX1 := Lib.hid (HX.out.trans hx1)
   have HO1 := Lib.hid (own_base ho1 HX.out.size)
   clear hx1 ho1
   go_wp2_with fail
   go_loopw [6, 27] (fun sv kv wr => ∃ (k q : Nat) (A : Option Addr) (c : Nat), sv = .slice A q c ∧ kv = .int .i64 (k : Int) ∧ k ≤ LL.length ∧ q = (flatV (LL.take k)).length ∧ Ext w wr ∧ wr.ownsRow w.heap.size 39 7 (.slice A q c) q ((flatV (LL.take k)).flatMap encActV)) (fun _ kv _ => LL.length - (intOf kv).toNat)
   case atStart => exact ⟨0, 0, A1, c1, rfl, rfl, Nat.zero_le _, rfl, HX1.out, HO1.out⟩
   case round =>
    obtain ⟨k, q, A, c, rfl, rfl, hk, hq, hx, ho⟩ := hrel
    have HX2 := Lib.hid hx
    have HO2 := Lib.hid ho
    have HQ := Lib.hid hq
    clear hx ho hq HX1 HO1
    by_cases hlt : k < LL.length
    ·have hltI : (k : Int) < (LL.length : Int) := by omega
     obtain ⟨b, o, rfl, hc⟩ := HP.out k hlt
     have r0 := HX2.out.cell (hc k hlt 0 _ rfl)
     obtain ⟨X, hX⟩ : ∃ X, X = LL[k] := ⟨_, rfl⟩
     have hfl : flatV (LL.take (k + 1)) = flatV (LL.take k) ++ X.L := by rw [flatV_succ LL k hlt, ← hX]
     rw [← hX] at r0
     have r1 : wr.cell? ⟨b, o + k, none⟩ = some (.slice X.A X.L.length X.c) := by simpa [ActsV.v] using r0
     have hle := flatV_le LL (k + 1)
     rw [hfl, List.length_append, ← HQ.out] at hle
     have HFL := Lib.hid hfl
     have HLT := Lib.hid hlt
     have HLE := Lib.hid hle
     have HRD := Lib.hid ((HLL.out X (by rw [hX]; exact List.getElem_mem hlt)).ext RActV.stays HX2.out)
     clear hc r0 hX hfl hle hlt hk
     go_wp2_with (at_builtin; refine wpList_append_onto _ encActV_ok (by decide) rfl (.tmp 31) (.tmp 32) 23 rfl w.heap.size 39 i1 (.agg #[.int .i64 0, .slice none 0 0, .string .empty, .int .i64 0, .int .i64 0, .int .i64 0, .int .i64 0]) Tryz.underlying23 HIE.out.1 HIE.out.2.1 HIE.out.2.2.1 HIE.out.2.2.2 rfl (.slice A q c) q _ rfl HO2.out (.slice X.A X.L.length X.c) X.L rfl HRD.out ?c1 ?c2 ?c3 ?_)
     case c1 => have := HLE.out; have := HN.out; unfold maxLen; omega
     case c2 => have := HLE.out; have := HN.out; omega
     case c3 => exact HX2.out.size
     intro A' c' w3 own3 hg3 _
     have HOWN3 := Lib.hid own3
     have HX3 := Lib.hid (HX2.out.grown hg3 (fun j hj => (HO2.out.lt _ hj).1))
     clear own3 hg3
     go_wp2_with fail
     go_roundw
     case rel =>
      refine ⟨k + 1, q + X.L.length, A', c', rfl, by first | rfl | go_num, by have := HLT.out; omega, by rw [HFL.out, List.length_append, ← HQ.out], HX3.out, ?_⟩
      rw [HFL.out, List.flatMap_append]
      exact HOWN3.out
     case measure => have := HLT.out; (simp [intOf]; try omega)
    ·obtain rfl : k = LL.length := by omega
     have hqe : q = (flatV LL).length := by have := HQ.out; rwa [List.take_length] at this
     subst hqe
     clear hlt hk HQ
     go_wp2_with fail
     go_ret
     refine ⟨A, c, rfl, HX2.out, ?_⟩
     have := HO2.out
     rw [List.take_length] at this
     exact this
theorem SlR.drop {α : Type} {C bytes : Nat} {R : Rd α} {w : World} {A : Option Addr} {c : Nat} {l : List α} (h : SlR C bytes R w (.slice A l.length c) l) (k : Nat) (hk : k ≤ l.length) :
  SlR C bytes R w (.slice (if c = k then A else A.map (·.add (k * C))) (l.length - k) (c - k)) (l.drop k) := by
 obtain ⟨A', cap, hv, hb, hc, h⟩ := h
 injection hv with h1 h2 h3
 subst h1; subst h3
 refine ⟨_, c - k, by rw [List.length_drop], by rw [List.length_drop]; have := Nat.mul_le_mul_right bytes (Nat.sub_le l.length k); omega, by rw [List.length_drop]; omega, ?_⟩
 by_cases hlk : l.drop k = []
 ·exact .inl hlk
 ·have hlt : k < l.length := by
   rcases Nat.lt_or_ge k l.length with h | h
   ·exact h
   ·exact absurd (List.drop_eq_nil_of_le h) hlk
  rcases h with h | ⟨b, o, hA, h⟩
  ·subst h; exact absurd hlt (Nat.not_lt_zero _)
  ·subst hA
   refine .inr ⟨b, o + k * C, ?_, fun i hi => ?_⟩
   ·rw [if_neg (by omega)]
    show some ((⟨b, o, none⟩ : Addr).add (k * C)) = _
    rw [Addr.add_lit]
   ·rw [List.length_drop] at hi
    obtain ⟨cs, c1, c2, c3⟩ := h (k + i) (by omega)
    refine ⟨cs, c1, fun j hj => ?_, by rw [List.getElem_drop]; exact c3⟩
    rw [← c2 j hj, Nat.add_mul]
    congr 2
    omega
theorem SlR.drop' {α : Type} {C bytes : Nat} {R : Rd α} {w : World} {A : Option Addr} {n c : Nat} {l : List α} (h : SlR C bytes R w (.slice A n c) l) (k : Nat) (hk : k ≤ l.length) (hn : n = l.length) :
  SlR C bytes R w (.slice (if c = k then A else A.map (·.add (k * C))) (n - k) (c - k)) (l.drop k) := by subst hn; exact h.drop k hk
def FilesIn (W : World) (va vf : Value) (y : ActV) : Prop := SlR 2 32 RFil W y.f y.a.files ∧ (∀ g, va.ownBlock = some g → Av g y.f) ∧ (∀ g, vf.ownBlock = some g → Av g y.f)
theorem FilesIn.rowA {W W' : World} {va va' vf : Value} {y : ActV} (h : FilesIn W va vf y) (hg : W.grownBy W' va.ownBlock) (hV : va'.ownBlock = va.ownBlock ∨ va'.ownBlock = some W.heap.size) : FilesIn W' va' vf y := by
 refine ⟨h.1.grown encFil_ok hg h.2.1, fun g hg' => ?_, h.2.2⟩
 rcases hV with e | e
 ·exact h.2.1 g (by rw [← e]; exact hg')
 ·rw [e] at hg'; injection hg' with hg'; exact h.1.avoids (by decide) (by omega)
theorem FilesIn.rowF {W W' : World} {va vf vf' : Value} {y : ActV} (h : FilesIn W va vf y) (hg : W.grownBy W' vf.ownBlock) (hV : vf'.ownBlock = vf.ownBlock ∨ vf'.ownBlock = some W.heap.size) : FilesIn W' va vf' y := by
 refine ⟨h.1.grown encFil_ok hg h.2.2, h.2.1, fun g hg' => ?_⟩
 rcases hV with e | e
 ·exact h.2.2 g (by rw [← e]; exact hg')
 ·rw [e] at hg'; injection hg' with hg'; exact h.1.avoids (by decide) (by omega)
theorem FilesIn.ext {W W' : World} {va vf : Value} {y : ActV} (h : FilesIn W va vf y) (k : Ext W W') : FilesIn W' va vf y := ⟨h.1.ext RFil.stays k, h.2.1, h.2.2⟩
theorem info_raw : (Tryz.prog.info? 82).map (fun i => (i.zero, i.size, i.bytes)) = some (some (.agg #[.int .i64 0, .int .i64 0, .int .i64 0, .int .i64 0]), 4, 32) := by kernel_rfl
def slLen : Value → Nat
 | .slice _ n _ => n
 | _ => 0
structure AddsW (w W : World) (va vf : Value) (La : List ActV) (Ls : List (List Fil)) : Prop where
 x : Ext w W
 a : W.ownsRow w.heap.size 39 7 va La.length (La.flatMap encActV)
 f : W.ownsRow w.heap.size 57 2 vf Ls.flatten.length (Ls.flatten.flatMap encFil)
 ne : ∀ g, va.ownBlock = some g → vf.ownBlock ≠ some g
 y : ∀ y ∈ La, FilesIn W va vf y
 e : La.map (·.a) = Ls.map addAct
 g : GroupsOk 0 Ls
theorem AddsW.up {w W W' : World} {va vf : Value} {La : List ActV} {Ls : List (List Fil)} (h : AddsW w W va vf La Ls) (k : Ext W W') : AddsW w W' va vf La Ls :=
 ⟨h.x.trans k, own_ext h.a k, own_ext h.f k, h.ne, fun y hy => (h.y y hy).ext k, h.e, h.g⟩
theorem AddsW.step {w W3 W4 W5 W6 : World} {va vf va' vf' : Value} {La : List ActV} {Ls : List (List Fil)} (h : AddsW w W3 va vf La Ls) {L : List Fil} {A : Option Addr} {c : Nat} (hy : FilesIn W3 va vf ⟨addAct L, A, c⟩) (hL : FilesOk Ls.flatten.length L) (h1 : 1 ≤ L.length) (h2 : L.length ≤ 2)
  (k : Ext W3 W4) (g1 : W4.grownBy W5 va.ownBlock) (hV1 : va'.ownBlock = va.ownBlock ∨ va'.ownBlock = some W4.heap.size) (o1 : W5.ownsRow w.heap.size 39 7 va' (La.length + 1) (La.flatMap encActV ++ encActV ⟨addAct L, A, c⟩))
  (g2 : W5.grownBy W6 vf.ownBlock) (hV2 : vf'.ownBlock = vf.ownBlock ∨ vf'.ownBlock = some W5.heap.size) (o2 : W6.ownsRow w.heap.size 57 2 vf' (Ls.flatten.length + L.length) (Ls.flatten.flatMap encFil ++ L.flatMap encFil)) :
  AddsW w W6 va' vf' (La ++ [⟨addAct L, A, c⟩]) (Ls ++ [L]) := by
 have hfl : ∀ g, vf.ownBlock = some g → w.heap.size ≤ g ∧ g < W3.heap.size := fun g hg => h.f.lt g hg
 have hal : ∀ g, va.ownBlock = some g → w.heap.size ≤ g ∧ g < W3.heap.size := fun g hg => h.a.lt g hg
 have hs := k.size
 have hs1 := g1.size
 have hne : ∀ g, va'.ownBlock = some g → vf.ownBlock ≠ some g := by
  intro g hg e
  rcases hV1 with e1 | e1
  ·exact h.ne g (by rw [← e1]; exact hg) e
  ·rw [e1] at hg; injection hg with hg; have := (hfl g e).2; omega
 refine ⟨((h.x.trans k).grown g1 (fun g hg => (hal g hg).1)).grown g2 (fun g hg => (hfl g hg).1), ?_, ?_, ?_, ?_, ?_, ?_⟩
 ·rw [List.length_append, List.flatMap_append]
  refine own_grown ?_ g2 (fun g hg e => hne g hg e)
  simpa using o1
 ·rw [List.flatten_append, List.length_append, List.flatMap_append]
  simpa using o2
 ·intro g hg e
  rcases hV2 with e2 | e2
  ·exact hne g hg (by rw [← e2]; exact e)
  ·rw [e2] at e; injection e with e; have := (o1.lt g hg).2; omega
 ·intro y hm
  have : FilesIn W3 va vf y := by
   rcases List.mem_append.1 hm with hm | hm
   ·exact h.y y hm
   ·obtain rfl := List.mem_singleton.1 hm; exact hy
  exact ((this.ext k).rowA g1 hV1).rowF g2 hV2
 ·rw [List.map_append, List.map_append, h.e]; rfl
 ·exact h.g.snoc (by rw [Nat.zero_add]; exact hL) h1 h2
theorem adds_any (v : Value) (l : List Raw4) (most : Nat) (w : World) (h : SlR 4 32 RRaw w v l) (hm : most ≤ 10) (hev : most % 2 = 0) (ht : Tab w) :
  Calls Tryz.prog 13 #[v, .int .i64 (most : Int)] w fun e w' => ∃ A c A' c' La Ls, e = .returned (.tuple #[.slice A La.length c, .slice A' Ls.flatten.length c']) ∧ AddsW w w' (.slice A La.length c) (.slice A' Ls.flatten.length c') La Ls ∧ Ls.flatten.length ≤ most := by
 have HTAB := Lib.hid ht
 obtain ⟨Av0, cv0, rfl, hlb, hlc, _⟩ := h.rowE encRw_ok
 have HH := Lib.hid h
 have HM := Lib.hid (And.intro hm hev)
 obtain ⟨i1, hi0, hz0, hz1, hz2⟩ := info_parts info_act
 have HIA := Lib.hid (And.intro hi0 (And.intro hz0 (And.intro hz1 hz2)))
 obtain ⟨i2, hj0, hy0, hy1, hy2⟩ := info_parts info_file
 have HIF := Lib.hid (And.intro hj0 (And.intro hy0 (And.intro hy1 hy2)))
 obtain ⟨i3, hr0, _, hr1, _⟩ := info_parts info_raw
 have HIR := Lib.hid (And.intro hr0 hr1)
 have hmI : (most : Int) ≤ 10 := by omega
 have hlI : (l.length : Int) ≤ 140737488355328 := by omega
 have hmN : most ≤ 10 := hm
 clear h ht hev hlb hlc hi0 hz0 hz1 hz2 hj0 hy0 hy1 hy2 hm hr0 hr1
 go_enter Tryz.func13, Tryz.ntmps13
 go_wp2_with fail
 go_loopw [0, 6, 7] (fun lv av fv wr => ∃ (p : Nat) (Ar : Option Addr) (cr : Nat) (A : Option Addr) (c : Nat) (A' : Option Addr) (c' : Nat) (La : List ActV) (Ls : List (List Fil)), lv = .slice Ar (l.length - p) cr ∧ av = .slice A La.length c ∧ fv = .slice A' Ls.flatten.length c' ∧
  p ≤ l.length ∧ SlR 4 32 RRaw w (.slice Ar (l.length - p) cr) (l.drop p) ∧ AddsW w wr (.slice A La.length c) (.slice A' Ls.flatten.length c') La Ls ∧ Ls.flatten.length ≤ most ∧ La.length ≤ Ls.flatten.length ∧ (Ls.flatten.length % 2 = 0 ∨ p = l.length) ∧ Ls.flatten.length ≤ p) (fun lv _ _ _ => slLen lv)
 case atStart => exact ⟨0, Av0, cv0, none, 0, none, 0, [], [], by simp, rfl, rfl, Nat.zero_le _, by simpa using HH.out, ⟨Ext.refl _, World.ownsRow_nil _ _ _ _, World.ownsRow_nil _ _ _ _, (fun g hg => by cases hg), (fun y hy => by cases hy), rfl, trivial⟩, Nat.zero_le _, Nat.zero_le _, .inl rfl, Nat.le_refl _⟩
 case round =>
  obtain ⟨p, Ar, cr, A, c, A', c', La, Ls, rfl, rfl, rfl, hp, hl, hw, hle, hla, hpar, hfp⟩ := hrel
  have HL := Lib.hid hl
  have HW := Lib.hid hw
  have HPAR := Lib.hid hpar
  have HLA := Lib.hid (show La.length ≤ 10 by omega)
  have HLN := Lib.hid hla
  clear hl hw hpar hla
  obtain ⟨q, hq⟩ : ∃ q, q = l.length - p := ⟨_, rfl⟩
  have HQ := Lib.hid (And.intro hq (And.intro hp hfp))
  rw [← hq] at HL ⊢
  have hqI : (q : Int) ≤ 140737488355328 := by omega
  obtain ⟨n, hn⟩ : ∃ n, n = Ls.flatten.length := ⟨_, rfl⟩
  rw [← hn] at HW HPAR hle ⊢
  have HN := Lib.hid hn
  have hnI : (n : Int) ≤ 10 := by omega
  clear hq hp hfp hn
  by_cases h1 : n < most
  ·have h1I : (n : Int) < (most : Int) := by omega
   by_cases h2 : 0 < q
   ·have h2I : (0 : Int) < (q : Int) := by omega
    have hn2 : n + 2 ≤ 10 := by have := HPAR.out; have := HQ.out; have := HM.out; omega
    have hn2m : n + 2 ≤ most := by have := HPAR.out; have := HQ.out; have := HM.out; omega
    go_wp2_with fail
    have hfa := files_any (.slice Ar q cr) (l.drop p) n 2 wr (HL.out.ext RRaw.stays HW.out.x) hn2 (HTAB.out.ext HW.out.x)
    refine hfa.mono ?_
    clear hfa
    rintro e w3 ⟨A3, c3, L, rfl, hx3, ho3, hl3, hok⟩
    have hlq2 : L.length = min 2 q := by rw [hl3, List.length_drop, HQ.out.1]
    have HLQ := Lib.hid hlq2
    have hlqI : (L.length : Int) ≤ (q : Int) := by omega
    have hl2I : (L.length : Int) ≤ 2 := by omega
    have HW3 := Lib.hid (show AddsW w w3 (.slice A La.length c) (.slice A' n c') La Ls from HW.out.up hx3)
    have HX3 := Lib.hid hx3
    have HO3 := Lib.hid ho3
    have HOK := Lib.hid hok
    have hlq : L.length ≤ q := by omega
    clear hx3 ho3 hl3 hok hlq2
    have hsr := HL.out.drop' L.length (by rw [List.length_drop]; have := HLQ.out; have := HQ.out; omega) (by rw [List.length_drop]; exact HQ.out.1)
    obtain ⟨A5, hA5⟩ : ∃ A5, (if cr = L.length then Ar else Ar.map (·.add (L.length * 4))) = A5 := ⟨_, rfl⟩
    obtain ⟨c5, hc5⟩ : ∃ c5, cr - L.length = c5 := ⟨_, rfl⟩
    rw [hA5, hc5] at hsr
    have HS5 := Lib.hid hsr
    have HA5 := Lib.hid (And.intro hA5 hc5)
    clear hsr hA5 hc5
    go_wp2_with (first | (refine wpList_slice_from _ rfl (.tmp 22) (.tmp 24) 22 rfl 4 82 i3 Tryz.underlying22 HIR.out.1 HIR.out.2 Ar q cr L.length rfl rfl hlq A5 c5 HA5.out.1 HA5.out.2 ?_) | (at_builtin; refine wpList_append_at _ rfl (.tmp 26) (.tmp 29) 23 rfl w.heap.size 39 i1 (.agg #[.int .i64 0, .slice none 0 0, .string .empty, .int .i64 0, .int .i64 0, .int .i64 0, .int .i64 0]) 7 80 Tryz.underlying23 HIA.out.1 HIA.out.2.1 HIA.out.2.2.1 HIA.out.2.2.2 rfl (by decide) (.slice A La.length c) La.length _ rfl (own_ext HW3.out.a ((Ext.refl _).alloc _)) ⟨w3.heap.size, 0, none⟩ 1 1 [.int .i64 1, .slice A3 L.length c3, .string .empty, .int .i64 0, .int .i64 0, .int .i64 0, .int .i64 0] rfl rfl ?c1 ?c2 ?c3 ?c4 ?c5 ?_))
    case c1 =>
     intro j u hu
     rw [Addr.add_lit, Nat.zero_add, (Blk_.new w3 39 _).cell, List.getElem?_toArray]
     exact hu
    case c2 =>
     intro u hu
     simp only [List.mem_cons, List.not_mem_nil, or_false] at hu
     rcases hu with rfl | rfl | rfl | rfl | rfl | rfl | rfl <;> rfl
    case c3 => have := HLA.out; unfold maxLen; omega
    case c4 => have := HLA.out; omega
    case c5 => have := HW3.out.x.size; rw [World.size_alloc]; omega
    intro A6 c6 w6 own6 hg6 hV6
    have HF6 := Lib.hid (own_grown (own_ext HW3.out.f ((Ext.refl _).alloc _)) hg6 (fun g hg e => HW3.out.ne g e hg))
    have HR3 := Lib.hid (SlR.of_own (bytes := 32) encFil_ok HO3.out (by omega) (fun f hf => by
     obtain ⟨i, hi, rfl⟩ := List.getElem_of_mem hf
     obtain ⟨e1, e2⟩ := HOK.out i hi
     exact ⟨rfl, by rw [e1]; show (2 : Nat) ≤ _; decide, by omega⟩))
    have HAV := Lib.hid (show FilesIn w3 (.slice A La.length c) (.slice A' n c') ⟨addAct L, A3, c3⟩ from ⟨HR3.out, fun g hg => (New.own HO3.out).av (HW.out.a.lt g hg).2, fun g hg => (New.own HO3.out).av (HW.out.f.lt g hg).2⟩)
    have hV6' : (Value.slice A6 (La.length + 1) c6).ownBlock = (Value.slice A La.length c).ownBlock ∨ (Value.slice A6 (La.length + 1) c6).ownBlock = some (w3.alloc (.cells #[.int .i64 1, .slice A3 L.length c3, .string .empty, .int .i64 0, .int .i64 0, .int .i64 0, .int .i64 0] 39)).heap.size := by rw [World.size_alloc]; exact hV6
    have HR6 := Lib.hid ((HAV.out.ext ((Ext.refl _).alloc _)).rowA hg6 hV6').1
    have HV6 := Lib.hid (And.intro own6 (And.intro hg6 hV6'))
    clear own6 hg6 hV6 hV6'
    go_wp2_with (at_builtin; refine wpList_append_onto _ encFil_ok (by decide) rfl (.tmp 31) (.tmp 32) 24 rfl w.heap.size 57 i2 (.agg #[.string .empty, .string .empty]) Tryz.underlying24 HIF.out.1 HIF.out.2.1 HIF.out.2.2.1 HIF.out.2.2.2 rfl (.slice A' n c') n _ rfl (own_len HN.out.symm HF6.out) (.slice A3 L.length c3) L rfl HR6.out ?d1 ?d2 ?d3 ?_)
    case d1 => unfold maxLen; omega
    case d2 => omega
    case d3 => have := HW3.out.x.size; have := HV6.out.2.1.size; rw [World.size_alloc] at this; omega
    intro A7 c7 w7 own7 hg7 hV7
    have hq1 := HQ.out
    have hn1 := HN.out
    have hq2 := HLQ.out
    have HS := Lib.hid (HW3.out.step HAV.out (by rw [← HN.out]; exact HOK.out) (by omega) (by omega) ((Ext.refl _).alloc _) HV6.out.2.1 HV6.out.2.2 HV6.out.1 hg7 hV7 (own_len (by rw [HN.out]) own7))
    clear own7 hg7 hV7
    go_wp2_with fail
    go_roundw
    case rel =>
     have hfl : (Ls ++ [L]).flatten.length = n + L.length := by rw [List.flatten_append, List.length_append, ← hn1]; simp
     have hHP := HPAR.out
     have hHL := HLN.out
     have hsl := HS5.out
     rw [List.drop_drop, show q - L.length = l.length - (p + L.length) by omega] at hsl
     refine ⟨p + L.length, A5, c5, A6, c6, A7, c7, La ++ [⟨addAct L, A3, c3⟩], Ls ++ [L], ?_, ?_, ?_, ?_, hsl, ?_, ?_, ?_, ?_, ?_⟩
     ·rw [show q - L.length = l.length - (p + L.length) by omega]
     ·rw [List.length_append]; rfl
     ·rw [hfl]
     ·omega
     ·have := HS.out
      rw [List.length_append, hfl]
      exact this
     ·rw [hfl]; omega
     ·rw [hfl, List.length_append]; show La.length + 1 ≤ _; omega
     ·rw [hfl]; omega
     ·rw [hfl]; omega
    case measure =>
     have := HLQ.out
     simp [slLen]
     omega
   ·have h2I : (q : Int) ≤ 0 := by omega
    go_wp2_with fail
    go_ret2
    have hn1 := HN.out
    subst hn1
    exact ⟨A, c, A', c', La, Ls, rfl, HW.out, hle⟩
  ·have h1I : (most : Int) ≤ (n : Int) := by omega
   go_wp2_with fail
   go_ret2
   have hn1 := HN.out
   subst hn1
   exact ⟨A, c, A', c', La, Ls, rfl, HW.out, hle⟩
def FineAll (m : Nat) : Sh → List ActD → Prop
 | _, [] => True
 | s, x :: l => ActFine m s x ∧ FineAll m (actS m s x).1 l
theorem FineAll.app {m : Nat} : ∀ {l l' : List ActD} {s : Sh}, FineAll m s l → FineAll m (runS m l s).2 l' → FineAll m s (l ++ l')
 | [], _, _, _, h => h
 | _ :: _, _, _, h, h' => ⟨h.1, FineAll.app h.2 h'⟩
theorem FineAll.at_ {m : Nat} : ∀ {l : List ActD} {s : Sh}, FineAll m s l → ∀ k (hk : k < l.length), ActFine m (runS m (l.take k) s).2 l[k]
 | [], _, _, k, hk => absurd hk (Nat.not_lt_zero _)
 | x :: l, s, h, 0, _ => h.1
 | x :: l, s, h, k + 1, hk => FineAll.at_ h.2 k (by simpa using hk)
theorem FineAll.take {m : Nat} : ∀ {l : List ActD} {s : Sh}, FineAll m s l → ∀ k, FineAll m s (l.take k)
 | [], _, _, _ => by rw [List.take_nil]; trivial
 | _ :: _, _, _, 0 => trivial
 | _ :: _, _, h, k + 1 => ⟨h.1, FineAll.take h.2 k⟩
structure TI (m : Nat) (s : Sh) (T : Nat → Nat → Prop) (G : List Fil) (n : Nat) : Prop where
 inv : AInv s.a m s.all T
 told : ∃ c D, Told s.all m c D G n
 next : s.next < m
 rounds : s.rounds ≤ 1000
structure MOk (m : Nat) : Prop where
 h16 : 16 ≤ m
 h64 : m ≤ 64
 h2 : m % 2 = 0
theorem TI.ok {m : Nat} {s : Sh} {T : Nat → Nat → Prop} {G : List Fil} {n : Nat} (hm : MOk m) (h : TI m s T G n) : ShOk m s := ⟨h.inv.part hm.h64, h.next, h.rounds⟩
theorem sh0_facts {m : Nat} (hm : MOk m) : TI m (sh0 m) (fun _ _ => False) [] 0 ∧ (∀ k, Ones (sh0 m).a m k) ∧ (sh0 m).next = 0 ∧ (sh0 m).rounds = 0 := by
 have hf := full_new hm.h16 hm.h64 hm.h2
 have e : (sh0 m).a = [freshDev m 0, freshDev m 0, freshDev (m / 2) 512] := by unfold sh0; rw [new_arr hm.h16 hm.h64 hm.h2]
 have hf' : Full (sh0 m).a m (sh0 m).all := by rw [e]; exact hf
 exact ⟨⟨AInv.of_full hf', ⟨_, _, told_new m (by have := hm.h16; omega)⟩, by have := hm.h16; show 0 < m; omega, by show 0 ≤ 1000; omega⟩, fun k => hf'.ones hm.h64 k, rfl, rfl⟩
def okG : List Ans → List (List Fil) → List Fil
 | a :: x, L :: l => (if a.code = 0 then L else []) ++ okG x l
 | _, _ => []
theorem actS_add (m : Nat) (s : Sh) (L : List Fil) : actS m s (addAct L) = (if (addS s.a L).2 = 0 then { s with a := (addS s.a L).1, all := addG s.a s.all L } else s, ansE (addS s.a L).2) := by
 unfold actS addAct
 rw [if_pos rfl]
theorem TI.add {m k : Nat} {s : Sh} {T : Nat → Nat → Prop} {G : List Fil} {n : Nat} (hm : MOk m) (h : TI m s T G n) (ho : Ones s.a m k) {L : List Fil} (hL : FilesOk n L) (h1 : 1 ≤ L.length) (h3 : L.length ≤ 3) (hn : n + L.length ≤ 10) :
  ActFine m s (addAct L) ∧ TI m (actS m s (addAct L)).1 T (G ++ (if (actS m s (addAct L)).2.code = 0 then L else [])) (n + L.length) ∧ Ones (actS m s (addAct L)).1.a m k ∧ (actS m s (addAct L)).1.next = s.next ∧ (actS m s (addAct L)).1.rounds = s.rounds := by
 obtain ⟨c, D, ht⟩ := h.told
 have hp := h.inv.part hm.h64
 have hop := ht.arch.openS hp hm.h16 hm.h64 hm.h2 (fun i hi => ho.code hp hm.h16 hm.h64 hm.h2 (by have := hm.h16; omega))
 obtain ⟨u1, u2, u3⟩ := add_fresh (nb := c.blocks.length) L n 0 c.entries hL hn ht.below
 rw [actS_add]
 by_cases hc : (addS s.a L).2 = 0
 ·obtain ⟨p1, o1, t1⟩ := ht.add hp ho hm.h16 hm.h64 hm.h2 hL hn hc
  have i1 := h.inv.add ht.arch ho hm.h16 hm.h64 hm.h2 hc
  refine ⟨⟨h.ok hm, fun _ _ => by rw [hop]; exact ht.arch.ok, fun _ _ _ => by rw [hop]; exact u1, fun _ _ => p1.good.len, fun e => absurd e (by show ¬ (1 : Int) = 7; decide)⟩, ?_⟩
  dsimp only
  rw [if_pos hc, if_pos (show (ansE (addS s.a L).2).code = 0 from hc)]
  exact ⟨⟨i1, ⟨_, _, t1⟩, h.next, h.rounds⟩, o1, rfl, rfl⟩
 ·refine ⟨⟨h.ok hm, fun _ _ => by rw [hop]; exact ht.arch.ok, fun _ _ _ => by rw [hop]; exact u1, fun _ e => absurd e hc, fun e => absurd e (by show ¬ (1 : Int) = 7; decide)⟩, ?_⟩
  dsimp only
  rw [if_neg hc, if_neg (show ¬ (ansE (addS s.a L).2).code = 0 from hc), List.append_nil]
  exact ⟨⟨h.inv, ⟨_, _, ht.more (by omega)⟩, h.next, h.rounds⟩, ho, rfl, rfl⟩
theorem TI.adds {m k : Nat} (hm : MOk m) {T : Nat → Nat → Prop} : ∀ {Ls : List (List Fil)} {s : Sh} {G : List Fil} {n : Nat}, TI m s T G n → Ones s.a m k → GroupsOk n Ls → n + Ls.flatten.length ≤ 10 →
  FineAll m s (Ls.map addAct) ∧ TI m (runS m (Ls.map addAct) s).2 T (G ++ okG (runS m (Ls.map addAct) s).1 Ls) (n + Ls.flatten.length) ∧ Ones (runS m (Ls.map addAct) s).2.a m k ∧ (runS m (Ls.map addAct) s).2.next = s.next ∧ (runS m (Ls.map addAct) s).2.rounds = s.rounds
 | [], s, G, n, h, ho, _, _ => ⟨trivial, by show TI m s T (G ++ []) (n + 0); rw [List.append_nil]; exact h, ho, rfl, rfl⟩
 | L :: Ls, s, G, n, h, ho, hg, hn => by
  obtain ⟨g1, g2, g3, g4⟩ := hg
  rw [List.flatten_cons, List.length_append] at hn
  obtain ⟨a1, a2, a3, a4, a5⟩ := h.add hm ho g1 g2 (by omega) (by omega)
  obtain ⟨b1, b2, b3, b4, b5⟩ := TI.adds hm a2 a3 g4 (by omega)
  refine ⟨⟨a1, b1⟩, ?_, b3, b4.trans a4, b5.trans a5⟩
  rw [List.flatten_cons, List.length_append, ← Nat.add_assoc]
  rw [List.append_assoc] at b2
  exact b2
theorem Ones.set_ {a : List Dev} {m j : Nat} (ho : Ones a m j) (hj : j < a.length) (d : Dev) : Ones (a.set j d) m j := by
 intro i p hi hij hp
 have := ho i p hi hij hp
 unfold Cp at this ⊢
 rw [dv_set a hj, if_neg hij]
 exact this
theorem TI.hurt {m j : Nat} {s : Sh} {T : Nat → Nat → Prop} {G : List Fil} {n : Nat} (hm : MOk m) (h : TI m s T G n) (hj : j < 3) {x : HA} (hx : ActOk j (szOf m j) x) (hT : x.kind = 5 → ¬ T j x.n.toNat) :
  ActFine m s (hurtAct x) ∧ TI m (actS m s (hurtAct x)).1 (fun i p => T i p ∨ (x.kind = 5 ∧ i = j ∧ p = x.n.toNat)) G n ∧ (Ones s.a m j → Ones (actS m s (hurtAct x)).1.a m j) ∧ (actS m s (hurtAct x)).1.next = s.next ∧ (actS m s (hurtAct x)).1.rounds = s.rounds := by
 obtain ⟨kd, d, nn, at_, by_⟩ := x
 obtain ⟨h1, h2, h3, h4, h5, h6, h7, h8⟩ := hx
 dsimp only at h1 h2 h3 h4 h5 h6 h7 h8 hT
 obtain rfl := h1
 obtain ⟨q, rfl⟩ := Int.eq_ofNat_of_zero_le h3
 rw [Int.toNat_natCast] at hT
 have hq : q < szOf m d := by omega
 have hl3 := h.inv.good.len
 have hmay := h.inv.good.may hm.h16 hm.h2
 have ht := h.inv.good.touch_ hj hq
 have hin : inB (d : Int) 0 2 = true := by unfold inB; simp only [Bool.and_eq_true, decide_eq_true_eq]; omega
 have hmono : AInv s.a m s.all (fun i p => T i p ∨ (kd = 5 ∧ i = d ∧ p = q)) := h.inv.mono (fun _ _ e => .inl e)
 refine ⟨⟨h.ok hm, fun e => ?_, fun e => ?_, fun e => ?_, fun e => ?_⟩, ?_⟩
 ·have e : kd = 1 := e; omega
 ·have e : kd = 1 := e; omega
 ·have e : kd = 1 := e; omega
 ·have e : kd = 7 := e; omega
 unfold actS hurtAct
 dsimp only
 rw [Int.toNat_natCast, Int.toNat_natCast]
 rcases h2 with rfl | rfl | rfl
 ·rw [if_neg (by decide), if_neg (by decide), if_neg (by decide), if_pos rfl, if_pos hin]
  unfold hurtS
  rw [ht, if_pos rfl]
  exact ⟨⟨(hmono.lose hj hq), h.told, h.next, h.rounds⟩, fun ho => ho.set_ (by omega) _, rfl, rfl⟩
 ·rw [if_neg (by decide), if_neg (by decide), if_neg (by decide), if_neg (by decide), if_pos rfl, if_pos hin]
  unfold hurtS
  have e0 : (turnS (dv s.a d) (q : Int) at_ by_).2 = 0 := by rw [turnS_ok ht ⟨h5, h6⟩ ⟨h7, h8⟩]
  rw [e0, if_pos rfl, Int.toNat_natCast]
  exact ⟨⟨h.inv.turn hj hq ⟨h5, h6⟩ ⟨h7, h8⟩ (hT rfl) (.inr ⟨rfl, rfl, rfl⟩) (fun _ _ e => .inl e), h.told, h.next, h.rounds⟩, fun ho => ho.set_ (by omega) _, rfl, rfl⟩
 ·rw [if_neg (by decide), if_neg (by decide), if_neg (by decide), if_neg (by decide), if_neg (by decide), if_pos rfl]
  have e1 : replaceS s.a (d : Int) = (s.a.set d (lostDev (devAt m d)), 0) := by
   unfold replaceS
   rw [hmay, hin, h.inv.good.l0]
   simp [devAt]
  rw [e1, if_pos rfl]
  exact ⟨⟨hmono.replace hm.h16 hm.h64 hj, h.told, h.next, h.rounds⟩, fun ho => ho.set_ (by omega) _, rfl, rfl⟩
theorem TI.hurts {m j : Nat} (hm : MOk m) (hj : j < 3) {G : List Fil} {n : Nat} : ∀ {l : List HA} {s : Sh} {T : Nat → Nat → Prop}, TI m s T G n → (∀ x ∈ l, ActOk j (szOf m j) x) → (turned l).Nodup → (∀ x ∈ l, x.kind = 5 → ¬ T j x.n.toNat) →
  FineAll m s (l.map hurtAct) ∧ (∃ T', TI m (runS m (l.map hurtAct) s).2 T' G n ∧ ∀ i p, T' i p → T i p ∨ (i = j ∧ ((p : Nat) : Int) ∈ turned l)) ∧ (Ones s.a m j → Ones (runS m (l.map hurtAct) s).2.a m j) ∧ (runS m (l.map hurtAct) s).2.next = s.next ∧ (runS m (l.map hurtAct) s).2.rounds = s.rounds
 | [], s, T, h, _, _, _ => ⟨trivial, ⟨T, h, fun _ _ e => .inl e⟩, id, rfl, rfl⟩
 | x :: l, s, T, h, hl, hn, hT => by
  rw [turned_cons] at hn
  have hx := hl x List.mem_cons_self
  obtain ⟨a1, a2, a3, a4, a5⟩ := h.hurt hm hj hx (hT x List.mem_cons_self)
  have hn' : (turned l).Nodup := (List.nodup_append.1 hn).2.1
  obtain ⟨b1, ⟨T', b2, b3⟩, b4, b5, b6⟩ := TI.hurts hm hj (l := l) a2 (fun y hy => hl y (List.mem_cons_of_mem _ hy)) hn' (fun y hy hk => by
   rintro (e | ⟨e5, _, e⟩)
   ·exact hT y (List.mem_cons_of_mem _ hy) hk e
   ·rw [if_pos e5] at hn
    have hy' := hl y (List.mem_cons_of_mem _ hy)
    have e1 : y.n = x.n := by have := hx.2.2.1; have := hy'.2.2.1; omega
    exact (List.nodup_append.1 hn).2.2 x.n (List.mem_singleton.2 rfl) y.n (by unfold turned; exact List.mem_map.2 ⟨y, List.mem_filter.2 ⟨hy, by simpa using hk⟩, rfl⟩) e1.symm)
  refine ⟨⟨a1, b1⟩, ⟨T', b2, fun i p e => ?_⟩, fun ho => b4 (a3 ho), b5.trans a4, b6.trans a5⟩
  rw [turned_cons]
  rcases b3 i p e with (e | ⟨e5, e, e'⟩) | ⟨e, e'⟩
  ·exact .inl e
  ·refine .inr ⟨e, ?_⟩
   rw [if_pos e5, e']
   have := hx.2.2.1
   exact List.mem_append_left _ (List.mem_singleton.2 (by omega))
  ·exact .inr ⟨e, List.mem_append_right _ e'⟩
theorem actS_get (m : Nat) (s : Sh) (f : Fil) : actS m s (getAct f) = (s, ⟨(getS s.a f.name).2, (getS s.a f.name).1, [], 0, []⟩) := by
 unfold actS getAct
 dsimp only
 rw [if_neg (by decide), if_pos rfl]
theorem run_gets (m : Nat) (s : Sh) : ∀ (L : List Fil), runS m (L.map getAct) s = (L.map (fun f => (⟨(getS s.a f.name).2, (getS s.a f.name).1, [], 0, []⟩ : Ans)), s)
 | [] => rfl
 | f :: L => by
  rw [List.map_cons, runS_cons, actS_get, run_gets m s L]
  rfl
theorem fine_gets {m : Nat} {s : Sh} (h : ShOk m s) : ∀ (L : List Fil), FineAll m s (L.map getAct)
 | [] => trivial
 | f :: L => by
  refine ⟨⟨h, fun e => ?_, fun e => ?_, fun e => ?_, fun e => ?_⟩, ?_⟩
  ·exact absurd e (by show ¬ (2 : Int) = 1; decide)
  ·exact absurd e (by show ¬ (2 : Int) = 1; decide)
  ·exact absurd e (by show ¬ (2 : Int) = 1; decide)
  ·exact absurd e (by show ¬ (2 : Int) = 7; decide)
  ·rw [actS_get]; exact fine_gets h L
def GetsTell (x : List Ans) (Ls : List (List Fil)) (y : List Ans) : Prop :=
 x.length = Ls.length ∧ y.length = Ls.flatten.length ∧ ∀ i (hi : i < Ls.length), ∀ j (hj : j < Ls[i].length), ∃ a g, x[i]? = some a ∧ y[((Ls.take i).flatten).length + j]? = some g ∧
  (a.code = 0 → g.code = 0 ∧ g.data = Ls[i][j].data) ∧ (a.code ≠ 0 → g.code = 6)
theorem okG_mem {f : Fil} : ∀ {x : List Ans} {Ls : List (List Fil)} {i : Nat} {a : Ans} (hi : i < Ls.length), x[i]? = some a → a.code = 0 → f ∈ Ls[i] → f ∈ okG x Ls
 | [], _, i, a, _, h, _, _ => by simp at h
 | _ :: _, [], i, a, hi, _, _, _ => absurd hi (Nat.not_lt_zero _)
 | b :: x, L :: Ls, 0, a, hi, h, hc, hf => by
  have e : b = a := by simpa using h
  unfold okG
  rw [e, if_pos hc]
  exact List.mem_append_left _ hf
 | b :: x, L :: Ls, i + 1, a, hi, h, hc, hf => by
  unfold okG
  exact List.mem_append_right _ (okG_mem (Ls := Ls) (i := i) (by simpa using hi) (by simpa using h) hc hf)
theorem okG_from {f : Fil} : ∀ {x : List Ans} {Ls : List (List Fil)}, f ∈ okG x Ls → ∃ (i : Nat) (hi : i < Ls.length) (a : Ans), x[i]? = some a ∧ a.code = 0 ∧ f ∈ Ls[i]
 | [], Ls, h => by unfold okG at h; cases h
 | _ :: _, [], h => by unfold okG at h; cases h
 | b :: x, L :: Ls, h => by
  unfold okG at h
  rcases List.mem_append.1 h with h | h
  ·by_cases hc : b.code = 0
   ·rw [if_pos hc] at h; exact ⟨0, by simp, b, rfl, hc, h⟩
   ·rw [if_neg hc] at h; cases h
  ·obtain ⟨i, hi, a, h1, h2, h3⟩ := okG_from h
   exact ⟨i + 1, by simpa using hi, a, by simpa using h1, h2, by simpa using h3⟩
theorem GroupsOk.name : ∀ {Ls : List (List Fil)} {n i : Nat} (h : GroupsOk n Ls) (hi : i < Ls.length) {j : Nat} (hj : j < Ls[i].length), Ls[i][j].name = fname (n + ((Ls.take i).flatten).length + j) ∧ Ls[i][j].data.size ≤ 200
 | L :: Ls, n, 0, h, hi, j, hj => h.1 j hj
 | L :: Ls, n, i + 1, h, hi, j, hj => by
  have := GroupsOk.name (i := i) h.2.2.2 (by simpa using hi) (j := j) (by simpa using hj)
  rw [List.take_succ_cons, List.flatten_cons, List.length_append, ← Nat.add_assoc]
  exact this
theorem take_flat_le (Ls : List (List Fil)) : ∀ (i : Nat) (hi : i < Ls.length), ((Ls.take i).flatten).length + Ls[i].length ≤ Ls.flatten.length := by
 intro i hi
 have h : Ls = Ls.take i ++ Ls[i] :: Ls.drop (i + 1) := by
  have := List.take_append_drop i Ls
  rw [← List.getElem_cons_drop hi] at this
  exact this.symm
 have e : Ls.flatten.length = ((Ls.take i ++ Ls[i] :: Ls.drop (i + 1)).flatten).length := by rw [← h]
 rw [e, List.flatten_append, List.flatten_cons, List.length_append, List.length_append]
 omega
theorem take_flat_mono (Ls : List (List Fil)) {i i' : Nat} (h : i < i') (hi : i < Ls.length) : ((Ls.take i).flatten).length + Ls[i].length ≤ ((Ls.take i').flatten).length := by
 have := take_flat_le (Ls.take i') i (by rw [List.length_take]; omega)
 rw [List.take_take, Nat.min_eq_left (by omega), List.getElem_take] at this
 exact this
theorem tell {m : Nat} {s : Sh} {T : Nat → Nat → Prop} {x : List Ans} {Ls : List (List Fil)} (hm : MOk m) (h : TI m s T (okG x Ls) (0 + Ls.flatten.length)) (hg : GroupsOk 0 Ls) (hn : Ls.flatten.length ≤ 10) (hx : x.length = Ls.length) (hr : ∀ i : Nat, i < m → (arrReadS s.a i).2.2 = 0) :
  GetsTell x Ls (runS m (Ls.flatten.map getAct) s).1 := by
 obtain ⟨c, D, ht⟩ := h.told
 have hp := h.inv.part hm.h64
 rw [run_gets]
 refine ⟨hx, List.length_map _, fun i hi j hj => ?_⟩
 have hle := take_flat_le Ls i hi
 have hfl : Ls.flatten[((Ls.take i).flatten).length + j]? = some Ls[i][j] := by
  have h : Ls = Ls.take i ++ Ls[i] :: Ls.drop (i + 1) := by
   have := List.take_append_drop i Ls
   rw [← List.getElem_cons_drop hi] at this
   exact this.symm
  have e : Ls.flatten = (Ls.take i).flatten ++ (Ls[i] ++ (Ls.drop (i + 1)).flatten) := by
   have : Ls.flatten = (Ls.take i ++ Ls[i] :: Ls.drop (i + 1)).flatten := by rw [← h]
   rw [this, List.flatten_append, List.flatten_cons]
  rw [e, List.getElem?_append_right (by omega), Nat.add_sub_cancel_left, List.getElem?_append_left hj, List.getElem?_eq_getElem hj]
 refine ⟨x[i], _, List.getElem?_eq_getElem (by omega), by rw [List.getElem?_map, hfl]; rfl, fun hc => ?_, fun hc => ?_⟩
 ·have hmem : Ls[i][j] ∈ okG x Ls := okG_mem hi (List.getElem?_eq_getElem (by omega)) hc (List.getElem_mem hj)
  have := ht.get hp hm.h16 hm.h64 hm.h2 hr hmem
  dsimp only
  rw [this]
  exact ⟨rfl, rfl⟩
 ·have := ht.gone hp hm.h16 hm.h64 hm.h2 hr (name := Ls[i][j].name) (fun f hf => by
   obtain ⟨i', hi', a, e1, e2, e3⟩ := okG_from hf
   obtain ⟨j', hj', rfl⟩ := List.getElem_of_mem e3
   have n1 := (hg.name hi hj).1
   have n2 := (hg.name hi' hj').1
   have hle' := take_flat_le Ls i' hi'
   rw [n1, n2]
   intro e
   have e := fname_inj (by omega) (by omega) e
   have hne : i' ≠ i := by
    intro e'
    subst e'
    rw [List.getElem?_eq_getElem (by omega)] at e1
    injection e1 with e1
    rw [e1] at hc
    exact hc e2
   rcases Nat.lt_or_ge i' i with hlt | hge
   ·have := take_flat_mono Ls hlt hi'; omega
   ·have := take_flat_mono Ls (show i < i' by omega) hi; omega)
  dsimp only
  rw [this]
def ToldOk (x : List Ans) (Ls : List (List Fil)) : Prop :=
 Ls.flatten.length ≤ x.length ∧ Ls.length ≤ x.length ∧ ∀ i (hi : i < Ls.length), ∀ j (hj : j < Ls[i].length), ∃ a g, x[i]? = some a ∧ x[x.length - Ls.flatten.length + (((Ls.take i).flatten).length + j)]? = some g ∧
  (a.code = 0 → g.code = 0 ∧ g.data = Ls[i][j].data) ∧ (a.code ≠ 0 → g.code = 6)
theorem GetsTell.told {x z y : List Ans} {Ls : List (List Fil)} (h : GetsTell x Ls y) : ToldOk (x ++ (z ++ y)) Ls := by
 obtain ⟨h1, h2, h3⟩ := h
 refine ⟨by simp only [List.length_append]; omega, by simp only [List.length_append]; omega, fun i hi j hj => ?_⟩
 obtain ⟨a, g, e1, e2, e3⟩ := h3 i hi j hj
 refine ⟨a, g, by rw [List.getElem?_append_left (by omega)]; exact e1, ?_, e3⟩
 have e : (x ++ (z ++ y)).length - Ls.flatten.length = (x ++ z).length := by simp only [List.length_append]; omega
 rw [e, ← List.append_assoc, List.getElem?_append_right (by omega), Nat.add_sub_cancel_left]
 exact e2
theorem top_base {m k : Nat} (hm : MOk m) (hk : k < 3) {Ls : List (List Fil)} {hs : List HA} (hg : GroupsOk 0 Ls) (hn : Ls.flatten.length ≤ 10) (hh : ∀ x ∈ hs, ActOk k (szOf m k) x) (hd : (turned hs).Nodup) :
  FineAll m (sh0 m) (Ls.map addAct) ∧ FineAll m (runS m (Ls.map addAct) (sh0 m)).2 (hs.map hurtAct) ∧
  ∃ T, TI m (runS m (hs.map hurtAct) (runS m (Ls.map addAct) (sh0 m)).2).2 T (okG (runS m (Ls.map addAct) (sh0 m)).1 Ls) (0 + Ls.flatten.length) ∧ (∀ i p, T i p → i = k) ∧
   Ones (runS m (hs.map hurtAct) (runS m (Ls.map addAct) (sh0 m)).2).2.a m k ∧ (runS m (hs.map hurtAct) (runS m (Ls.map addAct) (sh0 m)).2).2.next = 0 ∧ (runS m (hs.map hurtAct) (runS m (Ls.map addAct) (sh0 m)).2).2.rounds = 0 := by
 obtain ⟨a1, a2, a3, a4⟩ := sh0_facts hm
 obtain ⟨b1, b2, b3, b4, b5⟩ := TI.adds (k := k) hm a1 (a2 k) hg (by omega)
 obtain ⟨c1, ⟨T, c2, c3⟩, c4, c5, c6⟩ := b2.hurts hm hk hh hd (fun _ _ _ => id)
 refine ⟨b1, c1, T, c2, fun i p e => ?_, c4 b3, c5.trans (b4.trans a3), c6.trans (b5.trans a4)⟩
 rcases c3 i p e with e | e
 ·exact e.elim
 ·exact e.1
theorem actS_scrub (m : Nat) (s : Sh) {k : Nat} (hk : k ≤ 64) : actS m s (scrubAct k) = (⟨(scrubN m s.all k ⟨s.a, s.next, s.rounds, 0, []⟩).a, s.all, (scrubN m s.all k ⟨s.a, s.next, s.rounds, 0, []⟩).next, (scrubN m s.all k ⟨s.a, s.next, s.rounds, 0, []⟩).rounds⟩,
  ⟨0, .empty, [], (scrubN m s.all k ⟨s.a, s.next, s.rounds, 0, []⟩).count, goneI (scrubN m s.all k ⟨s.a, s.next, s.rounds, 0, []⟩).gone⟩) := by
 unfold actS scrubAct
 dsimp only
 rw [if_neg (by decide), if_neg (by decide), if_neg (by decide), if_neg (by decide), if_neg (by decide), if_neg (by decide), if_pos rfl, if_pos (show inB (k : Int) 0 64 = true by unfold inB; simp only [Bool.and_eq_true, decide_eq_true_eq]; omega), Int.toNat_natCast]
theorem fine_scrub {m : Nat} {s : Sh} (h : ShOk m s) {k : Nat} (hk : k ≤ 64) : ActFine m s (scrubAct k) := by
 refine ⟨h, fun e => ?_, fun e => ?_, fun e => ?_, fun _ => ⟨by show 0 ≤ (k : Int); omega, by show (k : Int) ≤ 64; omega⟩⟩ <;> exact absurd e (by show ¬ (7 : Int) = 1; decide)
theorem TI.scrub {m : Nat} {s : Sh} {T : Nat → Nat → Prop} {G : List Fil} {n : Nat} (hm : MOk m) (h : TI m s T G n) (hr : s.rounds ≤ 100) {k : Nat} (hk : k ≤ 64) : TI m (actS m s (scrubAct k)).1 T G n ∧ (actS m s (scrubAct k)).1.rounds ≤ s.rounds + 8 := by
 rw [actS_scrub m s hk]
 have hnx := scrub_next (m := m) s.all (⟨s.a, s.next, s.rounds, 0, []⟩ : Sc) h.next k
 have h16 := hm.h16
 have hdiv : (s.next + k) / m ≤ 8 := by
  have hn := h.next
  have h64 := hm.h64
  have : s.next + k < m * 9 := by omega
  have := Nat.div_lt_of_lt_mul this
  omega
 have e2 : (scrubN m s.all k ⟨s.a, s.next, s.rounds, 0, []⟩).rounds = s.rounds + (s.next + k) / m := hnx.2
 refine ⟨⟨scrub_ainv h.inv hm.h64 hm.h2 h.next k, h.told, ?_, ?_⟩, ?_⟩
 ·show (scrubN m s.all k ⟨s.a, s.next, s.rounds, 0, []⟩).next < m
  rw [hnx.1]
  exact Nat.mod_lt _ (by omega)
 ·show (scrubN m s.all k ⟨s.a, s.next, s.rounds, 0, []⟩).rounds ≤ 1000
  rw [e2]; omega
 ·show (scrubN m s.all k ⟨s.a, s.next, s.rounds, 0, []⟩).rounds ≤ s.rounds + 8
  rw [e2]; omega
theorem top_both {m k j : Nat} (hm : MOk m) (hk : k < 3) (hj : j < 3) (hkj : j ≠ k) {Ls : List (List Fil)} {hs hs' : List HA} (hg : GroupsOk 0 Ls) (hn : Ls.flatten.length ≤ 10) (hh : ∀ x ∈ hs, ActOk k (szOf m k) x) (hd : (turned hs).Nodup) (hh' : ∀ x ∈ hs', ActOk j (szOf m j) x) (hd' : (turned hs').Nodup) :
  FineAll m (sh0 m) (Ls.map addAct ++ (hs ++ hs').map hurtAct) ∧
  ∃ T, TI m (runS m (Ls.map addAct ++ (hs ++ hs').map hurtAct) (sh0 m)).2 T (okG (runS m (Ls.map addAct) (sh0 m)).1 Ls) (0 + Ls.flatten.length) ∧ (runS m (Ls.map addAct ++ (hs ++ hs').map hurtAct) (sh0 m)).2.next = 0 ∧ (runS m (Ls.map addAct ++ (hs ++ hs').map hurtAct) (sh0 m)).2.rounds = 0 ∧
   (runS m (Ls.map addAct ++ (hs ++ hs').map hurtAct) (sh0 m)).1 = (runS m (Ls.map addAct) (sh0 m)).1 ++ (runS m ((hs ++ hs').map hurtAct) (runS m (Ls.map addAct) (sh0 m)).2).1 := by
 obtain ⟨a1, a2, T, a3, aT, a4, a5, a6⟩ := top_base hm hk hg hn hh hd
 obtain ⟨c1, ⟨T', c2, _⟩, _, c5, c6⟩ := a3.hurts hm hj hh' hd' (fun x _ _ e => hkj (aT _ _ e))
 have e : (runS m (Ls.map addAct ++ (hs ++ hs').map hurtAct) (sh0 m)).2 = (runS m (hs'.map hurtAct) (runS m (hs.map hurtAct) (runS m (Ls.map addAct) (sh0 m)).2).2).2 := by
  rw [runS_append, List.map_append, runS_append]
 refine ⟨?_, T', by rw [e]; exact c2, by rw [e, c5]; exact a5, by rw [e, c6]; exact a6, by rw [runS_append]⟩
 rw [List.map_append]
 exact a1.app (a2.app c1)
theorem actS_health (m : Nat) (s : Sh) : actS m s healthAct = (s, ⟨(healthS s.a).2.2, .empty, [], (healthS s.a).1, (healthS s.a).2.1⟩) := by
 unfold actS healthAct
 dsimp only
 rw [if_neg (by decide), if_neg (by decide), if_neg (by decide), if_neg (by decide), if_neg (by decide), if_neg (by decide), if_neg (by decide), if_pos rfl]
theorem fine_health {m : Nat} {s : Sh} (h : ShOk m s) : ActFine m s healthAct := by
 refine ⟨h, fun e => ?_, fun e => ?_, fun e => ?_, fun e => ?_⟩
 ·exact absurd e (by show ¬ (8 : Int) = 1; decide)
 ·exact absurd e (by show ¬ (8 : Int) = 1; decide)
 ·exact absurd e (by show ¬ (8 : Int) = 1; decide)
 ·exact absurd e (by show ¬ (8 : Int) = 7; decide)
end Go.Proofs.YtgjijcgkmofaaaaGreatDoor
