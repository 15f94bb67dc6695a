/-
  What stays of readings in blocks that are new; the names of all files, in a row of the call's own. Conditions: as they say.
-/
import Derived.Test.YtgjijcgkmofaaaaGreatDoorU19
namespace Go.Proofs.YtgjijcgkmofaaaaGreatDoor
set_option linter.unusedSimpArgs false
set_option linter.unusedVariables false
set_option maxRecDepth 100000
set_option maxHeartbeats 8000000
open Go.RowKit
def Fresh (w w' : World) (R : World → Prop) : Prop := ∀ W, w'.heap.size ≤ W.heap.size → (∀ j, w.heap.size ≤ j → j < w'.heap.size → W.heap[j]? = w'.heap[j]?) → R W
theorem Fresh.now {w w' : World} {R : World → Prop} (h : Fresh w w' R) : R w' := h w' (Nat.le_refl _) (fun _ _ _ => rfl)
theorem Fresh.up {w w' w'' : World} {R : World → Prop} (h : Fresh w w' R) (k : Ext w' w'') : Fresh w w'' R :=
 fun W hs hk => h W (Nat.le_trans k.size hs) (fun j h1 h2 => (hk j h1 (by have := k.size; omega)).trans (Below.block k j h2))
theorem Fresh.low {w w0 w' : World} {R : World → Prop} (h : Fresh w0 w' R) (hl : w.heap.size ≤ w0.heap.size) : Fresh w w' R :=
 fun W hs hk => h W hs (fun j h1 h2 => hk j (by omega) h2)
theorem Fresh.off {w w' : World} {R : World → Prop} (h : Fresh w w' R) {p : Addr} (hp : p.block < w.heap.size) (u : Value) : Fresh w (w'.setCell p u) R :=
 fun W hs hk => h W (by simpa using hs) (fun j h1 h2 => (hk j h1 (by simpa using h2)).trans (Below.heap_setCell w' p u j (by omega)))
theorem fresh_nil {α : Type} {C b : Nat} {R : Rd α} {enc : α → List Value} (he : Enc C R enc) (w w' : World) : Fresh w w' (fun W => SlR C b R W (.slice none 0 0) []) :=
 fun W _ _ => SlR.of_own he (base := 0) (e := 0) (World.ownsRow_nil _ _ _ _) (by simp) (fun b hb => by cases hb)
theorem own_keep {w w' : World} {base : Nat} {e : TypeId} {size : Nat} {v : Value} {n : Nat} {xs : List Value} (h : w.ownsRow base e size v n xs) (k : ∀ j, base ≤ j → j < w.heap.size → w'.heap[j]? = w.heap[j]?) : w'.ownsRow base e size v n xs := by
 have h' := h
 refine ⟨h.1, ?_⟩
 rcases h.2 with h0 | ⟨g, cap, cur, hv, hb, hg, r⟩
 ·exact .inl h0
 ·exact .inr ⟨g, cap, cur, hv, hb, (k g hb (h'.lt g (by rw [hv]; rfl)).2).trans hg, r⟩
theorem fresh_own {α : Type} {C b : Nat} {R : Rd α} {enc : α → List Value} (he : Enc C R enc) {w w' : World} {e : TypeId} {v : Value} {l : List α} (o : w'.ownsRow w.heap.size e C v l.length (l.flatMap enc)) (hb : l.length * b ≤ 140737488355328) (hR : ∀ W, ∀ a ∈ l, R W (enc a) a) :
  Fresh w w' (fun W => SlR C b R W v l) := fun W _ hk => SlR.of_own he (own_keep o hk) hb (hR W)
theorem fresh_arr {E : TypeId} {w w' : World} {A : Option Addr} {n c : Nat} {a : List Dev} (o : OArr E w' w.heap.size (.slice A n c) a) (hl : a.length * 48 ≤ 140737488355328) : Fresh w w' (fun W => RArr W [.slice A n c] a) :=
 fun W _ hk => (o.low hk).rarr hl
def Safe (W : World) (g : Nat) (V : Value) (R : World → Prop) : Prop := ∃ (W0 : World) (base : Nat), (g < base ∨ W0.heap.size ≤ g) ∧ (∀ j, V.ownBlock = some j → j < base ∨ W0.heap.size ≤ j) ∧ W0.heap.size ≤ W.heap.size ∧ (∀ j, base ≤ j → j < W0.heap.size → W.heap[j]? = W0.heap[j]?) ∧
 ∀ W', W0.heap.size ≤ W'.heap.size → (∀ j, base ≤ j → j < W0.heap.size → W'.heap[j]? = W0.heap[j]?) → R W'
theorem Safe.now {W : World} {g : Nat} {V : Value} {R : World → Prop} (h : Safe W g V R) : R W := by
 obtain ⟨W0, base, _, _, hs, hk, hR⟩ := h
 exact hR W hs hk
theorem Safe.act {W W' : World} {g : Nat} {V : Value} {R : World → Prop} (h : Safe W g V R) (hg : W.grownBy W' (some g)) : Safe W' g V R := by
 obtain ⟨W0, base, h1, h2, hs, hk, hR⟩ := h
 refine ⟨W0, base, h1, h2, Nat.le_trans hs hg.size, fun j hj hl => (hg.block j (by omega) (fun e => ?_)).trans (hk j hj hl), hR⟩
 injection e with e
 omega
theorem Safe.up {W W' : World} {g : Nat} {V : Value} {R : World → Prop} (h : Safe W g V R) (k : Ext W W') : Safe W' g V R := h.act (k.by_ _)
theorem Safe.row {W W' : World} {g : Nat} {V V' : Value} {R : World → Prop} (h : Safe W g V R) (hg' : W.grownBy W' V.ownBlock) (hV : V'.ownBlock = V.ownBlock ∨ V'.ownBlock = some W.heap.size) : Safe W' g V' R := by
 obtain ⟨W0, base, h1, h2, hs, hk, hR⟩ := h
 refine ⟨W0, base, h1, fun j hj => ?_, Nat.le_trans hs hg'.size, fun j hj hl => (hg'.block j (by omega) (fun e => ?_)).trans (hk j hj hl), hR⟩
 ·rcases hV with e | e
  ·exact h2 j (by rw [← e]; exact hj)
  ·right
   rw [hj] at e
   injection e with e
   omega
 ·rcases h2 j e.symm with h | h <;> omega
theorem Fresh.safe {w w' : World} {R : World → Prop} (h : Fresh w w' R) (hs : w.heap.size ≤ w'.heap.size) {g : Nat} (hg : g < w.heap.size) {V : Value} (hV : ∀ j, V.ownBlock = some j → j < w.heap.size) : Safe w' g V R :=
 ⟨w', w.heap.size, .inl hg, fun j hj => .inl (hV j hj), Nat.le_refl _, fun _ _ _ => rfl, h⟩
theorem archNames_own (cs : List Value) (a : List Dev) (w : World) (h : RArr w cs a) :
  Calls Tryz.prog 24 #[.agg cs.toArray] w fun e w' => ∃ A c, e = .returned (.tuple #[.slice A (namesL (openS a).1).length c, .int .i64 (openS a).2]) ∧ Ext w w' ∧ w'.ownsRow w.heap.size 9 1 (.slice A (namesL (openS a).1).length c) (namesL (openS a).1).length ((namesL (openS a).1).flatMap encStr) ∧ (namesL (openS a).1).length * 16 ≤ 140737488355328 ∧ ∀ x ∈ namesL (openS a).1, x.size ≤ 140737488355328 := by
 obtain ⟨A, c, rfl⟩ := h.form
 obtain ⟨i1, hi1, za1, zb1, zc1⟩ := info_parts info_str
 have HI1 := Lib.hid (And.intro hi1 (And.intro za1 (And.intro zb1 zc1)))
 clear hi1 za1 zb1 zc1
 go_enter Tryz.func24, Tryz.ntmps24
 go_wp2_with fail
 refine calls_abs (fun W => Ext w W) ((Ext.refl _).alloc _) ?_
 intro W hx
 refine (archOpen_any [.slice A a.length c] a W (h.up hx)).mono ?_
 rintro e w1 ⟨A1, c1, A2, c2, rfl, hx1, hr1⟩
 have HBAD := Lib.hid (fun h => open_none (a := a) h)
 obtain ⟨d, hd⟩ : ∃ d, d = (openS a).1 := ⟨_, rfl⟩
 obtain ⟨u, hu⟩ : ∃ u, u = (openS a).2 := ⟨_, rfl⟩
 rw [← hd] at hr1 HBAD ⊢
 rw [← hu] at HBAD ⊢
 have HD := Lib.hid (And.intro hd hu)
 have HX1 := Lib.hid (hx.trans hx1)
 obtain ⟨V1, V2, hv, hs1, hs2⟩ := hr1
 simp only [List.cons.injEq, and_true] at hv
 obtain ⟨rfl, rfl⟩ := hv
 have HMEM := Lib.hid (hs2.mem encEnt_ok w1)
 have hlen := hs2.len
 obtain ⟨A2', c2', hv2, _, _, s1⟩ := hs2.rowE encEnt_ok
 injection hv2 with e1 e2 e3
 subst e1 e3
 have HS := Lib.hid s1
 have HL := Lib.hid (show d.entries.length * 40 ≤ 140737488355328 from hlen)
 have hnI : (d.entries.length : Int) ≤ 140737488355328 := by omega
 clear hd hu hx hx1 hs1 hs2 s1 hlen h
 by_cases hu0 : u = 0
 ·subst hu0
  clear HBAD
  go_wp2_with fail
  go_loopw [6, 20] (fun ov kv wr => ∃ (k : Nat) (A : Option Addr) (c : Nat), ov = .slice A k c ∧ kv = .int .i64 k ∧ k ≤ d.entries.length ∧ Ext w1 wr ∧ w1.heap.size + 1 ≤ wr.heap.size ∧ wr.ownsRow (w1.heap.size + 1) 9 1 (.slice A k c) k (((namesL d).take k).flatMap encStr)) (fun _ kv _ => d.entries.length - (intOf kv).toNat)
  case atStart => exact ⟨0, none, 0, rfl, rfl, Nat.zero_le _, (Ext.refl _).alloc _, by rw [World.size_alloc]; exact Nat.le_refl _, World.ownsRow_nil _ _ _ _⟩
  case round =>
   obtain ⟨k, A, c, rfl, rfl, hk, hx, hsz, ho⟩ := hrel
   have HO := Lib.hid ho
   have HX := Lib.hid hx
   clear ho
   by_cases hlt : k < d.entries.length
   ·obtain ⟨b2, o2, rfl, g1⟩ := HS.out k hlt
    have q0 := hx.cell (g1 k hlt 0 _ rfl)
    have q1 := hx.cell (g1 k hlt 1 _ rfl)
    have q2 := hx.cell (g1 k hlt 2 _ rfl)
    have q3 := hx.cell (g1 k hlt 3 _ rfl)
    simp only [Nat.add_zero] at q0
    have hst := names_step d k hlt
    obtain ⟨X, hX⟩ : ∃ X, X = d.entries[k] := ⟨_, rfl⟩
    rw [← hX] at q0 q1 q2 q3 hst
    have HST := Lib.hid hst
    have hki : (k : Int) < (d.entries.length : Int) := by omega
    have hkI : (k : Int) ≤ 140737488355328 := by omega
    have HLT := Lib.hid hlt
    clear hst hX g1 hx
    go_wp2_with (at_builtin; refine wpList_push (.tmp 24) (.tmp 27) 43 rfl rfl (w1.heap.size + 1) 9 i1 (.string .empty) 16 Tryz.underlying43 HI1.out.1 HI1.out.2.1 HI1.out.2.2.1 HI1.out.2.2.2 rfl _ k _ rfl (own_ext HO.out (((Ext.refl _).alloc _).alloc _)) (wr.heap.size + 1) 1 (.string X.name) rfl ?c1 rfl ?c2 ?c3 ?c4 ?_)
    case c1 => first | exact (Blk_.new _ _ _).cell 0 | exact (Blk_.new1 _ _ _ _).cell 0
    case c2 => have := HL.out; have := HLT.out; unfold maxLen; omega
    case c3 => have := HL.out; have := HLT.out; omega
    case c4 => simp only [World.size_alloc]; omega
    intro A7 c7 w7 own7 hg7 _
    have HX7 := Lib.hid ((HX.out.trans (((Ext.refl _).alloc _).alloc _)).grown hg7 (fun g hgg => by have := (HO.out.lt g hgg).1; omega))
    have HSZ7 := Lib.hid (show w1.heap.size + 1 ≤ w7.heap.size by have := hg7.size; simp only [World.size_alloc] at this; omega)
    have HO7 := Lib.hid own7
    rw [← HST.out] at HO7
    have HB7 := Lib.hid (And.intro True.intro True.intro)
    clear own7 hg7 q0 q1 q2 q3
    go_wp2_with fail
    go_roundw
    case rel => exact ⟨k + 1, A7, c7, rfl, by first | rfl | go_num, by have := HLT.out; omega, HX7.out, HSZ7.out, HO7.out⟩
    case measure => have := HLT.out; (simp [intOf]; try omega)
   ·obtain rfl : k = d.entries.length := by omega
    have HNL := Lib.hid (show d.entries.length = (namesL d).length by unfold namesL; rw [List.length_map])
    have ho2 := HO.out
    rw [List.take_of_length_le (by rw [← HNL.out]; exact Nat.le_refl _)] at ho2
    have HRD := Lib.hid (show wr.ownsRow w.heap.size 9 1 (.slice A (namesL d).length c) (namesL d).length ((namesL d).flatMap encStr) ∧ (namesL d).length * 16 ≤ 140737488355328 ∧ ∀ x ∈ namesL d, x.size ≤ 140737488355328 from by
     rw [HNL.out] at ho2
     refine ⟨own_base ho2 (by have := HX1.out.size; omega), by rw [← HNL.out]; have := HL.out; omega, fun x hx => ?_⟩
     unfold namesL at hx
     obtain ⟨y, hy, rfl⟩ := List.mem_map.1 hx
     exact (HMEM.out y hy).2.1)
    clear hx ho2
    go_wp2_with fail
    go_ret2
    rw [← HD.out.1, ← HD.out.2]
    refine ⟨A, c, by rw [← HNL.out]; rfl, HX1.out.trans HX.out, HRD.out⟩
 ·have hu1 : (u != 0) = true := by simp [bne, beq_false_of_ne hu0]
  have HDN := Lib.hid (HBAD.out hu0)
  clear HBAD hu0
  go_wp2_with fail
  go_ret2
  rw [← HD.out.1, ← HD.out.2, HDN.out]
  exact ⟨none, 0, rfl, HX1.out.alloc _, World.ownsRow_nil _ _ _ _, by decide, fun b hb => by cases hb⟩
theorem act_list (gs : Nat) (A : Option Addr) (c : Nat) (a : List Dev) (nx rd : Int) (vf : Value) (nm : ByteArray) (d n at_ by_ : Int) (w : World) (hb : Blk_ w gs 123 #[.slice A 3 c, .int .i64 nx, .int .i64 rd]) (hr : RArr w [.slice A 3 c] a) (h3 : a.length = 3) :
  Calls Tryz.prog 62 #[.pointer (some ⟨gs, 0, none⟩), .agg #[.int .i64 3, vf, .string nm, .int .i64 d, .int .i64 n, .int .i64 at_, .int .i64 by_]] w fun e w' => ∃ Vn, e = .returned (.agg #[.int .i64 (openS a).2, .string .empty, Vn, .int .i64 0, .slice none 0 0]) ∧ Ext w w' ∧ Fresh w w' (fun W => SlR 1 16 RStr W Vn (namesL (openS a).1)) := by
 have HB := Lib.hid hb
 have HR := Lib.hid hr
 have H3 := Lib.hid h3
 clear hb hr h3
 have c0 := HB.out.cell 0
 have c1 := HB.out.cell 1
 have c2 := HB.out.cell 2
 simp at c0 c1 c2
 have l0 := HB.out.lt
 have l0a : gs < w.heap.size + 1 := by omega
 have l0b : gs < w.heap.size + 1 + 1 := by omega
 go_enter Tryz.func62, Tryz.ntmps62
 go_wp2_with fail
 refine calls_abs (fun W => Ext w W ∧ Blk_ W w.heap.size 39 #[.int .i64 3, vf, .string nm, .int .i64 d, .int .i64 n, .int .i64 at_, .int .i64 by_] ∧ Blk_ W (w.heap.size + 1) 46 #[.int .i64 0, .string .empty, .slice none 0 0, .int .i64 0, .slice none 0 0] ∧ Blk_ W (w.heap.size + 2) 46 #[.int .i64 0, .string .empty, .slice none 0 0, .int .i64 0, .slice none 0 0]) ⟨(((Ext.refl _).alloc _).alloc _).alloc _, ((Blk_.new _ _ _).alloc _).alloc _, (Blk_.new1 _ _ _ _).alloc _, Blk_.new2 _ _ _ _ _⟩ ?_
 rintro w1 ⟨hx1, hb3, hb4, hb5⟩
 obtain ⟨b3, e3⟩ : ∃ b, b = w.heap.size := ⟨_, rfl⟩
 obtain ⟨b4, e4⟩ : ∃ b, b = b3 + 1 := ⟨_, rfl⟩
 obtain ⟨b5, e5⟩ : ∃ b, b = b4 + 1 := ⟨_, rfl⟩
 rw [← e3, ← e4, ← e5]
 have hb4' : Blk_ w1 b4 46 #[.int .i64 0, .string .empty, .slice none 0 0, .int .i64 0, .slice none 0 0] := by rw [e4, e3]; exact hb4
 have hb5' : Blk_ w1 b5 46 #[.int .i64 0, .string .empty, .slice none 0 0, .int .i64 0, .slice none 0 0] := by rw [e5, e4, e3]; exact hb5
 rw [← e3] at hb3
 have HE := Lib.hid (show w.heap.size = b3 ∧ b4 = b3 + 1 ∧ b5 = b4 + 1 ∧ gs < b3 from ⟨e3.symm, e4, e5, by rw [e3]; exact l0⟩)
 have HX1 := Lib.hid hx1
 have B3 := Lib.hid hb3
 have B4 := Lib.hid hb4'
 have B5 := Lib.hid hb5'
 have HB1 := Lib.hid (HB.out.ext hx1)
 have HR1 := Lib.hid (HR.out.up hx1)
 clear hx1 hb3 hb4 hb5 hb4' hb5' e3 e4 e5 l0 l0a l0b c0 c1 c2
 refine (archNames_own [.slice A 3 c] a w1 HR1.out).mono ?_
 rintro e w2 ⟨A', c', rfl, hx2, ho2, hz2, hn2⟩
 have u40 := (B4.out.ext hx2).cell 0
 have u50 := (B5.out.ext hx2).cell 0
 have v40 := (B4.out.ext hx2).frozen 0
 have v50 := (B5.out.ext hx2).frozen 0
 have u41 := (B4.out.ext hx2).cell 1
 have u51 := (B5.out.ext hx2).cell 1
 have v41 := (B4.out.ext hx2).frozen 1
 have v51 := (B5.out.ext hx2).frozen 1
 have u42 := (B4.out.ext hx2).cell 2
 have u52 := (B5.out.ext hx2).cell 2
 have v42 := (B4.out.ext hx2).frozen 2
 have v52 := (B5.out.ext hx2).frozen 2
 have u43 := (B4.out.ext hx2).cell 3
 have u53 := (B5.out.ext hx2).cell 3
 have v43 := (B4.out.ext hx2).frozen 3
 have v53 := (B5.out.ext hx2).frozen 3
 have u44 := (B4.out.ext hx2).cell 4
 have u54 := (B5.out.ext hx2).cell 4
 have v44 := (B4.out.ext hx2).frozen 4
 have v54 := (B5.out.ext hx2).frozen 4
 simp at u40 u50 u41 u51 u42 u52 u43 u53 u44 u54
 have hl4 := (B4.out.ext hx2).lt
 have hl5 := (B5.out.ext hx2).lt
 have hne45 : ¬ (b4 = b5) := by have := HE.out; omega
 have hne54 : ¬ (b5 = b4) := by have := HE.out; omega
 have HX2 := Lib.hid hx2
 have HF2 := Lib.hid (fresh_own (b := 16) (R := RStr) encStr_ok ho2 hz2 (fun _ x hx => ⟨rfl, hn2 x hx⟩))
 clear hx2 ho2 hz2 hn2
 generalize (namesL (openS a).1).length = ln at *
 obtain ⟨code, hcode⟩ : ∃ k, k = (openS a).2 := ⟨_, rfl⟩
 have HCO := Lib.hid hcode
 rw [← hcode]
 clear hcode
 go_wp2_with fail
 refine bodyPost_ret (res_cell (g := b4) (cs := #[.int .i64 code, .string .empty, .slice A' ln c', .int .i64 0, .slice none 0 0]) rfl rfl (by exact ((((((((B4.out.ext HX2.out).far (p := ⟨b5, 2, none⟩) hne45 (.slice A' ln c')).far (p := ⟨b5, 0, none⟩) hne45 (.int .i64 code)).set 0 (.int .i64 code)).set 1 (.string .empty)).set 2 (.slice A' ln c')).set 3 (.int .i64 0)).set 4 (.slice none 0 0))) Tryz.underlying46 rfl (by kernel_rfl)) rfl ?_
 rw [← HCO.out]
 exact ⟨_, rfl, ((((((((HX1.out.trans HX2.out).setCell (p := ⟨b5, 2, none⟩) (by have := HE.out; simp only; omega) (.slice A' ln c')).setCell (p := ⟨b5, 0, none⟩) (by have := HE.out; simp only; omega) (.int .i64 code)).setCell (p := ⟨b4, 0, none⟩) (by have := HE.out; simp only; omega) (.int .i64 code)).setCell (p := ⟨b4, 1, none⟩) (by have := HE.out; simp only; omega) (.string .empty)).setCell (p := ⟨b4, 2, none⟩) (by have := HE.out; simp only; omega) (.slice A' ln c')).setCell (p := ⟨b4, 3, none⟩) (by have := HE.out; simp only; omega) (.int .i64 0)).setCell (p := ⟨b4, 4, none⟩) (by have := HE.out; simp only; omega) (.slice none 0 0)), ((((((((HF2.out.off (p := ⟨b5, 2, none⟩) (by have h4 := B4.out.lt; have h5 := B5.out.lt; simp only; omega) (.slice A' ln c')).off (p := ⟨b5, 0, none⟩) (by have h4 := B4.out.lt; have h5 := B5.out.lt; simp only; omega) (.int .i64 code)).off (p := ⟨b4, 0, none⟩) (by have h4 := B4.out.lt; have h5 := B5.out.lt; simp only; omega) (.int .i64 code)).off (p := ⟨b4, 1, none⟩) (by have h4 := B4.out.lt; have h5 := B5.out.lt; simp only; omega) (.string .empty)).off (p := ⟨b4, 2, none⟩) (by have h4 := B4.out.lt; have h5 := B5.out.lt; simp only; omega) (.slice A' ln c')).off (p := ⟨b4, 3, none⟩) (by have h4 := B4.out.lt; have h5 := B5.out.lt; simp only; omega) (.int .i64 0)).off (p := ⟨b4, 4, none⟩) (by have h4 := B4.out.lt; have h5 := B5.out.lt; simp only; omega) (.slice none 0 0))).low (HX1.out.size)⟩
theorem act_get (gs : Nat) (A : Option Addr) (c : Nat) (a : List Dev) (nx rd : Int) (vf : Value) (nm : ByteArray) (d n at_ by_ : Int) (w : World) (hb : Blk_ w gs 123 #[.slice A 3 c, .int .i64 nx, .int .i64 rd]) (hr : RArr w [.slice A 3 c] a) (h3 : a.length = 3) (hn : nm.size ≤ 140737488355328) :
  Calls Tryz.prog 62 #[.pointer (some ⟨gs, 0, none⟩), .agg #[.int .i64 2, vf, .string nm, .int .i64 d, .int .i64 n, .int .i64 at_, .int .i64 by_]] w fun e w' => e = .returned (.agg #[.int .i64 (getS a nm).2, .string (getS a nm).1, .slice none 0 0, .int .i64 0, .slice none 0 0]) ∧ Ext w w' := by
 have HB := Lib.hid hb
 have HR := Lib.hid hr
 have H3 := Lib.hid h3
 have HNM := Lib.hid hn
 clear hb hr h3 hn
 have c0 := HB.out.cell 0
 have c1 := HB.out.cell 1
 have c2 := HB.out.cell 2
 simp at c0 c1 c2
 have l0 := HB.out.lt
 have l0a : gs < w.heap.size + 1 := by omega
 have l0b : gs < w.heap.size + 1 + 1 := by omega
 go_enter Tryz.func62, Tryz.ntmps62
 go_wp2_with fail
 refine wp_abs (fun W => Ext w W ∧ Blk_ W w.heap.size 39 #[.int .i64 2, vf, .string nm, .int .i64 d, .int .i64 n, .int .i64 at_, .int .i64 by_] ∧ Blk_ W (w.heap.size + 1) 46 #[.int .i64 0, .string .empty, .slice none 0 0, .int .i64 0, .slice none 0 0] ∧ Blk_ W (w.heap.size + 2) 46 #[.int .i64 0, .string .empty, .slice none 0 0, .int .i64 0, .slice none 0 0]) ⟨(((Ext.refl _).alloc _).alloc _).alloc _, ((Blk_.new _ _ _).alloc _).alloc _, (Blk_.new1 _ _ _ _).alloc _, Blk_.new2 _ _ _ _ _⟩ ?_
 rintro w1 ⟨hx1, hb3, hb4, hb5⟩
 obtain ⟨b3, e3⟩ : ∃ b, b = w.heap.size := ⟨_, rfl⟩
 obtain ⟨b4, e4⟩ : ∃ b, b = b3 + 1 := ⟨_, rfl⟩
 obtain ⟨b5, e5⟩ : ∃ b, b = b4 + 1 := ⟨_, rfl⟩
 rw [← e3, ← e4, ← e5]
 have hb4' : Blk_ w1 b4 46 #[.int .i64 0, .string .empty, .slice none 0 0, .int .i64 0, .slice none 0 0] := by rw [e4, e3]; exact hb4
 have hb5' : Blk_ w1 b5 46 #[.int .i64 0, .string .empty, .slice none 0 0, .int .i64 0, .slice none 0 0] := by rw [e5, e4, e3]; exact hb5
 rw [← e3] at hb3
 have HE := Lib.hid (show w.heap.size = b3 ∧ b4 = b3 + 1 ∧ b5 = b4 + 1 ∧ gs < b3 from ⟨e3.symm, e4, e5, by rw [e3]; exact l0⟩)
 have HX1 := Lib.hid hx1
 have B3 := Lib.hid hb3
 have B4 := Lib.hid hb4'
 have B5 := Lib.hid hb5'
 have HB1 := Lib.hid (HB.out.ext hx1)
 have HR1 := Lib.hid (HR.out.up hx1)
 clear hx1 hb3 hb4 hb5 hb4' hb5' e3 e4 e5 l0 l0a l0b c0 c1 c2
 have fgs0 := (HB1.out).cell 0
 simp at fgs0
 have fb32 := (B3.out).cell 2
 simp at fb32
 have hne45 : ¬ (b4 = b5) := by have := HE.out; omega
 have hne54 : ¬ (b5 = b4) := by have := HE.out; omega
 refine wp_region_all (S := fun W' => W'.cell? ⟨gs, 0, none⟩ = some (.slice A 3 c) ∧ W'.cell? ⟨b3, 2, none⟩ = some (.string nm)) (by kernel_rfl) ?_
 have hS0 : (fun W' => W'.cell? ⟨gs, 0, none⟩ = some (.slice A 3 c) ∧ W'.cell? ⟨b3, 2, none⟩ = some (.string nm)) w1.drew := ⟨fgs0, fb32⟩
 refine tkL 0 rfl (fun w' hS => by obtain ⟨hS, hS2'⟩ := hS; go_simp; rfl) hS0 ?_
 refine tkL 1 rfl (fun w' hS => by obtain ⟨hS, hS2'⟩ := hS; go_simp; rfl) hS0 ?_
 refine tkL 2 rfl (fun w' hS => by obtain ⟨hS, hS2'⟩ := hS; go_simp; rfl) hS0 ?_
 try simp only [Act.put, List.setIfInBounds_toArray, List.set_cons_zero, List.set_cons_succ]
 refine tkL 3 rfl (fun w' hS => by obtain ⟨hS, hS2'⟩ := hS; go_simp; rfl) hS0 ?_
 refine tkL 4 rfl (fun w' hS => by obtain ⟨hS, hS2'⟩ := hS; go_simp; rfl) hS0 ?_
 refine tkL 5 rfl (fun w' hS => by obtain ⟨hS, hS2'⟩ := hS; go_simp; rfl) hS0 ?_
 try simp only [Act.put, List.setIfInBounds_toArray, List.set_cons_zero, List.set_cons_succ]
 refine wpAnyH_oneL (i := 6) rfl (by kernel_rfl) rfl (fun K hK => ?_)
 go_wp2_with fail
 refine (archGet_any [.slice A 3 c] a nm _ (HR1.out.up (Ext.refl _).drew)).mono ?_
 rintro e w2 ⟨rfl, hx2'⟩
 have hx2 : Ext w1 w2 := (Ext.refl w1).drew.trans hx2'
 have hS2 : (fun W' => W'.cell? ⟨gs, 0, none⟩ = some (.slice A 3 c) ∧ W'.cell? ⟨b3, 2, none⟩ = some (.string nm)) w2 := ⟨hx2.cell fgs0, hx2.cell fb32⟩
 have u40 := (B4.out.ext hx2).cell 0
 have u50 := (B5.out.ext hx2).cell 0
 have v40 := (B4.out.ext hx2).frozen 0
 have v50 := (B5.out.ext hx2).frozen 0
 have u41 := (B4.out.ext hx2).cell 1
 have u51 := (B5.out.ext hx2).cell 1
 have v41 := (B4.out.ext hx2).frozen 1
 have v51 := (B5.out.ext hx2).frozen 1
 have u42 := (B4.out.ext hx2).cell 2
 have u52 := (B5.out.ext hx2).cell 2
 have v42 := (B4.out.ext hx2).frozen 2
 have v52 := (B5.out.ext hx2).frozen 2
 have u43 := (B4.out.ext hx2).cell 3
 have u53 := (B5.out.ext hx2).cell 3
 have v43 := (B4.out.ext hx2).frozen 3
 have v53 := (B5.out.ext hx2).frozen 3
 have u44 := (B4.out.ext hx2).cell 4
 have u54 := (B5.out.ext hx2).cell 4
 have v44 := (B4.out.ext hx2).frozen 4
 have v54 := (B5.out.ext hx2).frozen 4
 simp at u40 u50 u41 u51 u42 u52 u43 u53 u44 u54
 have hl4 := (B4.out.ext hx2).lt
 have hl5 := (B5.out.ext hx2).lt
 have HX2 := Lib.hid hx2
 obtain ⟨code, hcode⟩ : ∃ k, k = (getS a nm).2 := ⟨_, rfl⟩
 have HCO := Lib.hid hcode
 obtain ⟨dat, hdat⟩ : ∃ k, k = (getS a nm).1 := ⟨_, rfl⟩
 have HDA := Lib.hid hdat
 rw [← hcode, ← hdat]
 refine hK _ _ hS2 ?_
 clear hK K hx2 hx2' hcode hdat
 refine tkL 7 rfl (fun w' hS => by obtain ⟨hS, hS2'⟩ := hS; go_simp; rfl) hS2 ?_
 refine tkL 8 rfl (fun w' hS => by obtain ⟨hS, hS2'⟩ := hS; go_simp; rfl) hS2 ?_
 refine tkL 9 rfl (fun w' hS => by obtain ⟨hS, hS2'⟩ := hS; go_simp; rfl) hS2 ?_
 try simp only [Act.put, List.setIfInBounds_toArray, List.set_cons_zero, List.set_cons_succ]
 refine tkL 10 rfl (fun w' hS => by obtain ⟨hS, hS2'⟩ := hS; go_simp; rfl) hS2 ?_
 try simp only [Act.put, List.setIfInBounds_toArray, List.set_cons_zero, List.set_cons_succ]
 refine wpAnyH_oneL (i := 11) rfl (by kernel_rfl) rfl (fun K hK => ?_)
 have hS3 : (fun W' => W'.cell? ⟨gs, 0, none⟩ = some (.slice A 3 c) ∧ W'.cell? ⟨b3, 2, none⟩ = some (.string nm)) (w2.setCell ⟨b5, 1, none⟩ (.string dat)) := by
  constructor
  ·rw [World.cell?_setCell_other _ _ _ _ (fun e => by have h1 := HE.out; injection e with e1; omega)]; exact hS2.1
  ·rw [World.cell?_setCell_other _ _ _ _ (fun e => by have h1 := HE.out; injection e with e1; omega)]; exact hS2.2
 go_wp2_with fail
 refine hK _ _ hS3 ?_
 clear hK K
 refine tkL 12 rfl (fun w' hS => by obtain ⟨hS, hS2'⟩ := hS; go_simp; rfl) hS3 ?_
 try simp only [Act.put, List.setIfInBounds_toArray, List.set_cons_zero, List.set_cons_succ]
 refine wpAnyH_oneL (i := 13) rfl (by kernel_rfl) rfl (fun K hK => ?_)
 have hS4 : (fun W' => W'.cell? ⟨gs, 0, none⟩ = some (.slice A 3 c) ∧ W'.cell? ⟨b3, 2, none⟩ = some (.string nm)) ((w2.setCell ⟨b5, 1, none⟩ (.string dat)).setCell ⟨b5, 0, none⟩ (.int .i64 code)) := by
  constructor
  ·rw [World.cell?_setCell_other _ _ _ _ (fun e => by have h1 := HE.out; injection e with e1; omega)]; exact hS3.1
  ·rw [World.cell?_setCell_other _ _ _ _ (fun e => by have h1 := HE.out; injection e with e1; omega)]; exact hS3.2
 go_wp2_with fail
 refine hK _ _ hS4 ?_
 clear hK K
 refine wpAnyH_done (by kernel_rfl) ?_ _
 go_wp2_with fail
 refine bodyPost_ret (res_cell (g := b4) (cs := #[.int .i64 code, .string dat, .slice none 0 0, .int .i64 0, .slice none 0 0]) rfl rfl (by exact ((((((((B4.out.ext HX2.out).far (p := ⟨b5, 1, none⟩) hne45 (.string dat)).far (p := ⟨b5, 0, none⟩) hne45 (.int .i64 code)).set 0 (.int .i64 code)).set 1 (.string dat)).set 2 (.slice none 0 0)).set 3 (.int .i64 0)).set 4 (.slice none 0 0))) Tryz.underlying46 rfl (by kernel_rfl)) rfl ?_
 rw [← HCO.out, ← HDA.out]
 exact ⟨rfl, ((((((((HX1.out.trans HX2.out).setCell (p := ⟨b5, 1, none⟩) (by have := HE.out; simp only; omega) (.string dat)).setCell (p := ⟨b5, 0, none⟩) (by have := HE.out; simp only; omega) (.int .i64 code)).setCell (p := ⟨b4, 0, none⟩) (by have := HE.out; simp only; omega) (.int .i64 code)).setCell (p := ⟨b4, 1, none⟩) (by have := HE.out; simp only; omega) (.string dat)).setCell (p := ⟨b4, 2, none⟩) (by have := HE.out; simp only; omega) (.slice none 0 0)).setCell (p := ⟨b4, 3, none⟩) (by have := HE.out; simp only; omega) (.int .i64 0)).setCell (p := ⟨b4, 4, none⟩) (by have := HE.out; simp only; omega) (.slice none 0 0))⟩
theorem healthLoop_in (a : List Dev) : ∀ (j k : Nat) (bad : Int) (gone : List Int), (∀ x ∈ gone, 0 ≤ x ∧ x < 1000) → k + j ≤ 1000 → (∀ x ∈ (healthLoop a j k bad gone).2, 0 ≤ x ∧ x < 1000) ∧ (healthLoop a j k bad gone).2.length ≤ gone.length + j
 | 0, _, _, gone, h, _ => ⟨h, Nat.le_refl _⟩
 | j + 1, k, bad, gone, h, hk => by
  unfold healthLoop
  split
  ·have := healthLoop_in a j (k + 1) (bad + (badS a k).1) (gone ++ [(k : Int)]) (fun x hx => by
    rcases List.mem_append.1 hx with hx | hx
    ·exact h x hx
    ·obtain rfl := List.mem_singleton.1 hx; omega) (by omega)
   rw [List.length_append, List.length_singleton] at this
   exact ⟨this.1, by omega⟩
  ·have := healthLoop_in a j (k + 1) (bad + (badS a k).1) gone h (by omega)
   exact ⟨this.1, by omega⟩
theorem health_in {a : List Dev} {m : Nat} (hg : Good a m) (h16 : 16 ≤ m) (h64 : m ≤ 64) (h2 : m % 2 = 0) : (∀ x ∈ (healthS a).2.1, 0 ≤ x ∧ x < 1000) ∧ (healthS a).2.1.length ≤ 64 := by
 have hl0 : (dv a 0).sec.length = m := hg.l0
 have := healthLoop_in a m 0 0 [] (fun x hx => by cases hx) (by omega)
 unfold healthS
 rw [hg.may h16 h2, hl0]
 exact ⟨this.1, by have h1 := this.2; simp only [List.length_nil] at h1; show (healthLoop a m 0 0 []).2.length ≤ 64; omega⟩
theorem act_health (gs : Nat) (A : Option Addr) (c : Nat) (a : List Dev) (nx rd : Int) (vf : Value) (nm : ByteArray) (d n at_ by_ : Int) (w : World) (hb : Blk_ w gs 123 #[.slice A 3 c, .int .i64 nx, .int .i64 rd]) (hr : RArr w [.slice A 3 c] a) (h3 : a.length = 3) (m : Nat) (all : List ByteArray) (hp : Part a m all) (h16 : 16 ≤ m) (h64 : m ≤ 64) (h2 : m % 2 = 0) :
  Calls Tryz.prog 62 #[.pointer (some ⟨gs, 0, none⟩), .agg #[.int .i64 8, vf, .string nm, .int .i64 d, .int .i64 n, .int .i64 at_, .int .i64 by_]] w fun e w' => ∃ Vg, e = .returned (.agg #[.int .i64 0, .string .empty, .slice none 0 0, .int .i64 (healthS a).1, Vg]) ∧ Ext w w' ∧ Fresh w w' (fun W => SlR 1 8 RInt W Vg (healthS a).2.1) := by
 have HB := Lib.hid hb
 have HR := Lib.hid hr
 have H3 := Lib.hid h3
 have HP := Lib.hid hp
 have HM := Lib.hid (And.intro h16 (And.intro h64 h2))
 have HIN := Lib.hid (health_in hp.good h16 h64 h2)
 clear hb hr h3 hp h16 h64 h2
 have c0 := HB.out.cell 0
 have c1 := HB.out.cell 1
 have c2 := HB.out.cell 2
 simp at c0 c1 c2
 have l0 := HB.out.lt
 have l0a : gs < w.heap.size + 1 := by omega
 have l0b : gs < w.heap.size + 1 + 1 := by omega
 go_enter Tryz.func62, Tryz.ntmps62
 go_wp2_with fail
 refine calls_abs (fun W => Ext w W ∧ Blk_ W w.heap.size 39 #[.int .i64 8, vf, .string nm, .int .i64 d, .int .i64 n, .int .i64 at_, .int .i64 by_] ∧ Blk_ W (w.heap.size + 1) 46 #[.int .i64 0, .string .empty, .slice none 0 0, .int .i64 0, .slice none 0 0] ∧ Blk_ W (w.heap.size + 2) 46 #[.int .i64 0, .string .empty, .slice none 0 0, .int .i64 0, .slice none 0 0]) ⟨(((Ext.refl _).alloc _).alloc _).alloc _, ((Blk_.new _ _ _).alloc _).alloc _, (Blk_.new1 _ _ _ _).alloc _, Blk_.new2 _ _ _ _ _⟩ ?_
 rintro w1 ⟨hx1, hb3, hb4, hb5⟩
 obtain ⟨b3, e3⟩ : ∃ b, b = w.heap.size := ⟨_, rfl⟩
 obtain ⟨b4, e4⟩ : ∃ b, b = b3 + 1 := ⟨_, rfl⟩
 obtain ⟨b5, e5⟩ : ∃ b, b = b4 + 1 := ⟨_, rfl⟩
 rw [← e3, ← e4, ← e5]
 have hb4' : Blk_ w1 b4 46 #[.int .i64 0, .string .empty, .slice none 0 0, .int .i64 0, .slice none 0 0] := by rw [e4, e3]; exact hb4
 have hb5' : Blk_ w1 b5 46 #[.int .i64 0, .string .empty, .slice none 0 0, .int .i64 0, .slice none 0 0] := by rw [e5, e4, e3]; exact hb5
 rw [← e3] at hb3
 have HE := Lib.hid (show w.heap.size = b3 ∧ b4 = b3 + 1 ∧ b5 = b4 + 1 ∧ gs < b3 from ⟨e3.symm, e4, e5, by rw [e3]; exact l0⟩)
 have HX1 := Lib.hid hx1
 have B3 := Lib.hid hb3
 have B4 := Lib.hid hb4'
 have B5 := Lib.hid hb5'
 have HB1 := Lib.hid (HB.out.ext hx1)
 have HR1 := Lib.hid (HR.out.up hx1)
 clear hx1 hb3 hb4 hb5 hb4' hb5' e3 e4 e5 l0 l0a l0b c0 c1 c2
 refine (health_any [.slice A 3 c] a m all w1 HR1.out HP.out HM.out.1 HM.out.2.1 HM.out.2.2).mono ?_
 rintro e w2 ⟨A', c', rfl, hx2, ho2⟩
 have u40 := (B4.out.ext hx2).cell 0
 have u50 := (B5.out.ext hx2).cell 0
 have v40 := (B4.out.ext hx2).frozen 0
 have v50 := (B5.out.ext hx2).frozen 0
 have u41 := (B4.out.ext hx2).cell 1
 have u51 := (B5.out.ext hx2).cell 1
 have v41 := (B4.out.ext hx2).frozen 1
 have v51 := (B5.out.ext hx2).frozen 1
 have u42 := (B4.out.ext hx2).cell 2
 have u52 := (B5.out.ext hx2).cell 2
 have v42 := (B4.out.ext hx2).frozen 2
 have v52 := (B5.out.ext hx2).frozen 2
 have u43 := (B4.out.ext hx2).cell 3
 have u53 := (B5.out.ext hx2).cell 3
 have v43 := (B4.out.ext hx2).frozen 3
 have v53 := (B5.out.ext hx2).frozen 3
 have u44 := (B4.out.ext hx2).cell 4
 have u54 := (B5.out.ext hx2).cell 4
 have v44 := (B4.out.ext hx2).frozen 4
 have v54 := (B5.out.ext hx2).frozen 4
 simp at u40 u50 u41 u51 u42 u52 u43 u53 u44 u54
 have hl4 := (B4.out.ext hx2).lt
 have hl5 := (B5.out.ext hx2).lt
 have hne45 : ¬ (b4 = b5) := by have := HE.out; omega
 have hne54 : ¬ (b5 = b4) := by have := HE.out; omega
 have HX2 := Lib.hid hx2
 have HF2 := Lib.hid (fresh_own (b := 8) (R := RInt) encInt_ok ho2 (by have := HIN.out.2; omega) (fun _ x hx => ⟨rfl, by have := HIN.out.1 x hx; unfold I64; omega⟩))
 clear hx2 ho2
 generalize (healthS a).2.1.length = ln at *
 obtain ⟨cnt, hcnt⟩ : ∃ k, k = (healthS a).1 := ⟨_, rfl⟩
 have HCO := Lib.hid hcnt
 rw [← hcnt]
 clear hcnt
 go_wp2_with fail
 refine bodyPost_ret (res_cell (g := b4) (cs := #[.int .i64 0, .string .empty, .slice none 0 0, .int .i64 cnt, .slice A' ln c']) rfl rfl (by exact (((((((((B4.out.ext HX2.out).far (p := ⟨b5, 3, none⟩) hne45 (.int .i64 cnt)).far (p := ⟨b5, 4, none⟩) hne45 (.slice A' ln c')).far (p := ⟨b5, 0, none⟩) hne45 (.int .i64 0)).set 0 (.int .i64 0)).set 1 (.string .empty)).set 2 (.slice none 0 0)).set 3 (.int .i64 cnt)).set 4 (.slice A' ln c'))) Tryz.underlying46 rfl (by kernel_rfl)) rfl ?_
 rw [← HCO.out]
 exact ⟨_, rfl, (((((((((HX1.out.trans HX2.out).setCell (p := ⟨b5, 3, none⟩) (by have := HE.out; simp only; omega) (.int .i64 cnt)).setCell (p := ⟨b5, 4, none⟩) (by have := HE.out; simp only; omega) (.slice A' ln c')).setCell (p := ⟨b5, 0, none⟩) (by have := HE.out; simp only; omega) (.int .i64 0)).setCell (p := ⟨b4, 0, none⟩) (by have := HE.out; simp only; omega) (.int .i64 0)).setCell (p := ⟨b4, 1, none⟩) (by have := HE.out; simp only; omega) (.string .empty)).setCell (p := ⟨b4, 2, none⟩) (by have := HE.out; simp only; omega) (.slice none 0 0)).setCell (p := ⟨b4, 3, none⟩) (by have := HE.out; simp only; omega) (.int .i64 cnt)).setCell (p := ⟨b4, 4, none⟩) (by have := HE.out; simp only; omega) (.slice A' ln c')), (((((((((HF2.out.off (p := ⟨b5, 3, none⟩) (by have h4 := B4.out.lt; have h5 := B5.out.lt; simp only; omega) (.int .i64 cnt)).off (p := ⟨b5, 4, none⟩) (by have h4 := B4.out.lt; have h5 := B5.out.lt; simp only; omega) (.slice A' ln c')).off (p := ⟨b5, 0, none⟩) (by have h4 := B4.out.lt; have h5 := B5.out.lt; simp only; omega) (.int .i64 0)).off (p := ⟨b4, 0, none⟩) (by have h4 := B4.out.lt; have h5 := B5.out.lt; simp only; omega) (.int .i64 0)).off (p := ⟨b4, 1, none⟩) (by have h4 := B4.out.lt; have h5 := B5.out.lt; simp only; omega) (.string .empty)).off (p := ⟨b4, 2, none⟩) (by have h4 := B4.out.lt; have h5 := B5.out.lt; simp only; omega) (.slice none 0 0)).off (p := ⟨b4, 3, none⟩) (by have h4 := B4.out.lt; have h5 := B5.out.lt; simp only; omega) (.int .i64 cnt)).off (p := ⟨b4, 4, none⟩) (by have h4 := B4.out.lt; have h5 := B5.out.lt; simp only; omega) (.slice A' ln c'))).low (HX1.out.size)⟩
theorem act_none (gs : Nat) (A : Option Addr) (c : Nat) (a : List Dev) (nx rd : Int) (vf : Value) (nm : ByteArray) (d n at_ by_ : Int) (w : World) (hb : Blk_ w gs 123 #[.slice A 3 c, .int .i64 nx, .int .i64 rd]) (hr : RArr w [.slice A 3 c] a) (h3 : a.length = 3) (kd : Int) (hk : kd < 1 ∨ 8 < kd) :
  Calls Tryz.prog 62 #[.pointer (some ⟨gs, 0, none⟩), .agg #[.int .i64 kd, vf, .string nm, .int .i64 d, .int .i64 n, .int .i64 at_, .int .i64 by_]] w fun e w' => e = .returned (.agg #[.int .i64 3, .string .empty, .slice none 0 0, .int .i64 0, .slice none 0 0]) ∧ Ext w w' := by
 have HB := Lib.hid hb
 have HR := Lib.hid hr
 have H3 := Lib.hid h3
 have t1 : (kd == 1) = false := beq_false_of_ne (by omega)
 have t2 : (kd == 2) = false := beq_false_of_ne (by omega)
 have t3 : (kd == 3) = false := beq_false_of_ne (by omega)
 have t4 : (kd == 4) = false := beq_false_of_ne (by omega)
 have t5 : (kd == 5) = false := beq_false_of_ne (by omega)
 have t6 : (kd == 6) = false := beq_false_of_ne (by omega)
 have t7 : (kd == 7) = false := beq_false_of_ne (by omega)
 have t8 : (kd == 8) = false := beq_false_of_ne (by omega)
 clear hb hr h3 hk
 have c0 := HB.out.cell 0
 have c1 := HB.out.cell 1
 have c2 := HB.out.cell 2
 simp at c0 c1 c2
 have l0 := HB.out.lt
 have l0a : gs < w.heap.size + 1 := by omega
 have l0b : gs < w.heap.size + 1 + 1 := by omega
 go_enter Tryz.func62, Tryz.ntmps62
 go_wp2_with fail
 refine bodyPost_ret (res_cell (g := w.heap.size + 1) (cs := #[.int .i64 3, .string .empty, .slice none 0 0, .int .i64 0, .slice none 0 0]) rfl rfl ((Blk_.new1 _ _ _ _).alloc _) Tryz.underlying46 rfl (by kernel_rfl)) rfl ?_
 exact ⟨rfl, (((Ext.refl _).alloc _).alloc _).alloc _⟩
theorem actLose_any (cs : List Value) (x : Dev) (b3 : Nat) (kd : Int) (vf : Value) (fn : ByteArray) (d n at_ by_ : Int) (w : World) (h : RDev w cs x) (hb : Blk_ w b3 39 #[.int .i64 kd, vf, .string fn, .int .i64 d, .int .i64 n, .int .i64 at_, .int .i64 by_]) (hn : I64 n) (ha : I64 at_) (hy : I64 by_) :
  Calls Tryz.prog 97 #[.agg cs.toArray, .pointer (some ⟨b3, 0, none⟩)] w fun e w' => ∃ A1 c1 A2 c2, e = .returned (.tuple #[.agg #[.slice A1 (loseS x n).sec.length c1, .slice A2 (loseS x n).lost.length c2], .int .i64 (touchCode x n)]) ∧ Ext w w' ∧
   ODev 9 4 w' w.heap.size (.slice A1 (loseS x n).sec.length c1) (.slice A2 (loseS x n).lost.length c2) (loseS x n) := by
 obtain ⟨A1, c1, A2, c2, rfl⟩ := h.form
 have HD := Lib.hid h
 have HI := Lib.hid (And.intro hn (And.intro ha hy))
 have HB := Lib.hid hb
 have l0 := hb.lt
 have f4 := hb.cell 4
 simp at f4
 clear h hn ha hy hb
 go_enter Tryz.func97, Tryz.ntmps97
 go_wp2_with fail
 refine calls_abs (fun W => Ext w W ∧ Blk_ W w.heap.size 68 #[.slice A1 x.sec.length c1, .slice A2 x.lost.length c2] ∧ Blk_ W (w.heap.size + 1) 68 #[.slice none 0 0, .slice none 0 0]) ⟨((Ext.refl _).alloc _).alloc _, (Blk_.new _ _ _).alloc _, Blk_.new1 _ _ _ _⟩ ?_
 rintro w1 ⟨hx1, hb1, hq1⟩
 obtain ⟨b2, hb2⟩ : ∃ b, b = w.heap.size := ⟨_, rfl⟩
 rw [← hb2] at hb1 hq1 ⊢
 have HW := Lib.hid hb2
 refine (devLose_any [.slice A1 x.sec.length c1, .slice A2 x.lost.length c2] x n w1 (HD.out.up hx1) HI.out.1).mono ?_
 rintro e w2 ⟨A3, c3, A4, c4, rfl, hx2, ho2⟩
 have HX2 := Lib.hid (hx1.trans hx2)
 have HQ2 := Lib.hid (hq1.ext hx2)
 have HO2 := Lib.hid ho2
 have HL := Lib.hid (show b2 + 1 < w1.heap.size from hq1.lt)
 have y0 := (hq1.ext hx2).cell 0
 have y1 := (hq1.ext hx2).cell 1
 have x0 := (hq1.ext hx2).frozen 0
 have x1 := (hq1.ext hx2).frozen 1
 simp at y0 y1
 clear hx1 hb1 hq1 hx2 ho2 hb2
 obtain ⟨D, hD⟩ : ∃ D, D = loseS x n := ⟨_, rfl⟩
 have HDD := Lib.hid hD
 obtain ⟨cd, hcd⟩ : ∃ cd, cd = touchCode x n := ⟨_, rfl⟩
 have HCD := Lib.hid hcd
 rw [← hD] at HO2 ⊢
 rw [← hcd]
 clear hD hcd
 obtain ⟨n1, hn1⟩ : ∃ n1, n1 = D.sec.length := ⟨_, rfl⟩
 obtain ⟨n2, hn2⟩ : ∃ n2, n2 = D.lost.length := ⟨_, rfl⟩
 have HNN := Lib.hid (And.intro hn1 hn2)
 rw [← hn1, ← hn2] at HO2 ⊢
 clear hn1 hn2
 go_wp2_with fail
 refine bodyPost_ret (res_cell_tmp rfl rfl ((HQ2.out.set 0 (.slice A3 n1 c3)).set 1 (.slice A4 n2 c4)) Tryz.underlying68 rfl (by kernel_rfl)) rfl ?_
 rw [← HDD.out, ← HCD.out, ← HNN.out.1, ← HNN.out.2]
 exact ⟨A3, c3, A4, c4, rfl, (HX2.out.setCell (p := ⟨b2 + 1, 0, none⟩) (by have := HW.out; simp only; omega) _).setCell (p := ⟨b2 + 1, 1, none⟩) (by have := HW.out; simp only; omega) _, ((HO2.out.far (p := ⟨b2 + 1, 0, none⟩) (by have := HL.out; simp only; omega) _).far (p := ⟨b2 + 1, 1, none⟩) (by have := HL.out; simp only; omega) _).base (by have := HL.out; have := HW.out; omega)⟩
theorem actTurn_any (cs : List Value) (x : Dev) (b3 : Nat) (kd : Int) (vf : Value) (fn : ByteArray) (d n at_ by_ : Int) (w : World) (h : RDev w cs x) (hb : Blk_ w b3 39 #[.int .i64 kd, vf, .string fn, .int .i64 d, .int .i64 n, .int .i64 at_, .int .i64 by_]) (hn : I64 n) (ha : I64 at_) (hy : I64 by_) :
  Calls Tryz.prog 99 #[.agg cs.toArray, .pointer (some ⟨b3, 0, none⟩)] w fun e w' => ∃ A1 c1 A2 c2, e = .returned (.tuple #[.agg #[.slice A1 ((turnS x n at_ by_).1).sec.length c1, .slice A2 ((turnS x n at_ by_).1).lost.length c2], .int .i64 ((turnS x n at_ by_).2)]) ∧ Ext w w' ∧
   ODev 9 4 w' w.heap.size (.slice A1 ((turnS x n at_ by_).1).sec.length c1) (.slice A2 ((turnS x n at_ by_).1).lost.length c2) ((turnS x n at_ by_).1) := by
 obtain ⟨A1, c1, A2, c2, rfl⟩ := h.form
 have HD := Lib.hid h
 have HI := Lib.hid (And.intro hn (And.intro ha hy))
 have HB := Lib.hid hb
 have l0 := hb.lt
 have f4 := hb.cell 4
 have f5 := hb.cell 5
 have f6 := hb.cell 6
 simp at f4 f5 f6
 clear h hn ha hy hb
 go_enter Tryz.func99, Tryz.ntmps99
 go_wp2_with fail
 refine calls_abs (fun W => Ext w W ∧ Blk_ W w.heap.size 68 #[.slice A1 x.sec.length c1, .slice A2 x.lost.length c2] ∧ Blk_ W (w.heap.size + 1) 68 #[.slice none 0 0, .slice none 0 0]) ⟨((Ext.refl _).alloc _).alloc _, (Blk_.new _ _ _).alloc _, Blk_.new1 _ _ _ _⟩ ?_
 rintro w1 ⟨hx1, hb1, hq1⟩
 obtain ⟨b2, hb2⟩ : ∃ b, b = w.heap.size := ⟨_, rfl⟩
 rw [← hb2] at hb1 hq1 ⊢
 have HW := Lib.hid hb2
 refine (devTurn_any [.slice A1 x.sec.length c1, .slice A2 x.lost.length c2] x n at_ by_ w1 (HD.out.up hx1) HI.out.1 HI.out.2.1 HI.out.2.2).mono ?_
 rintro e w2 ⟨A3, c3, A4, c4, rfl, hx2, ho2⟩
 have HX2 := Lib.hid (hx1.trans hx2)
 have HQ2 := Lib.hid (hq1.ext hx2)
 have HO2 := Lib.hid ho2
 have HL := Lib.hid (show b2 + 1 < w1.heap.size from hq1.lt)
 have y0 := (hq1.ext hx2).cell 0
 have y1 := (hq1.ext hx2).cell 1
 have x0 := (hq1.ext hx2).frozen 0
 have x1 := (hq1.ext hx2).frozen 1
 simp at y0 y1
 clear hx1 hb1 hq1 hx2 ho2 hb2
 obtain ⟨D, hD⟩ : ∃ D, D = (turnS x n at_ by_).1 := ⟨_, rfl⟩
 have HDD := Lib.hid hD
 obtain ⟨cd, hcd⟩ : ∃ cd, cd = (turnS x n at_ by_).2 := ⟨_, rfl⟩
 have HCD := Lib.hid hcd
 rw [← hD] at HO2 ⊢
 rw [← hcd]
 clear hD hcd
 obtain ⟨n1, hn1⟩ : ∃ n1, n1 = D.sec.length := ⟨_, rfl⟩
 obtain ⟨n2, hn2⟩ : ∃ n2, n2 = D.lost.length := ⟨_, rfl⟩
 have HNN := Lib.hid (And.intro hn1 hn2)
 rw [← hn1, ← hn2] at HO2 ⊢
 clear hn1 hn2
 go_wp2_with fail
 refine bodyPost_ret (res_cell_tmp rfl rfl ((HQ2.out.set 0 (.slice A3 n1 c3)).set 1 (.slice A4 n2 c4)) Tryz.underlying68 rfl (by kernel_rfl)) rfl ?_
 rw [← HDD.out, ← HCD.out, ← HNN.out.1, ← HNN.out.2]
 exact ⟨A3, c3, A4, c4, rfl, (HX2.out.setCell (p := ⟨b2 + 1, 0, none⟩) (by have := HW.out; simp only; omega) _).setCell (p := ⟨b2 + 1, 1, none⟩) (by have := HW.out; simp only; omega) _, ((HO2.out.far (p := ⟨b2 + 1, 0, none⟩) (by have := HL.out; simp only; omega) _).far (p := ⟨b2 + 1, 1, none⟩) (by have := HL.out; simp only; omega) _).base (by have := HL.out; have := HW.out; omega)⟩
end Go.Proofs.YtgjijcgkmofaaaaGreatDoor
