/-
  catalog.Decode: a catalog out of bytes. Conditions: none.
-/
import Derived.Test.YtjadmfdlggnlgaaGreatDoorV15
namespace Go.Proofs.YtjadmfdlggnlgaaGreatDoor
set_option linter.unusedSimpArgs false
set_option linter.unusedVariables false
set_option maxRecDepth 100000
set_option maxHeartbeats 8000000
open Go.RowKit
def SX (w W : World) (r : ByteArray) (e : Int) (V1 V2 : Value) (bl : List Blk) (es : List Ent) : Prop :=
 CX w W (w.heap.size + 2) (w.heap.size + 3) V1 V2 bl es ∧ Blk_ W w.heap.size 40 #[.slice none 0 0, .slice none 0 0] ∧ Blk_ W (w.heap.size + 1) 102 #[.string r, .int .i64 e]
theorem SX.up {w W W' : World} {r : ByteArray} {e : Int} {V1 V2 : Value} {bl : List Blk} {es : List Ent} (h : SX w W r e V1 V2 bl es) (k : Ext W W') : SX w W' r e V1 V2 bl es := ⟨h.1.up k, h.2.1.ext k, h.2.2.ext k⟩
theorem SX.num {w W W' : World} {r r' : ByteArray} {e e' : Int} {V1 V2 : Value} {bl : List Blk} {es : List Ent} (h : SX w W r e V1 V2 bl es) (hg : W.grownBy W' (some (w.heap.size + 1))) (hb : Blk_ W' (w.heap.size + 1) 102 #[.string r', .int .i64 e']) : SX w W' r' e' V1 V2 bl es :=
 ⟨h.1.by_ hg (by omega) (by omega) (by omega), h.2.1.grown hg (fun k hk => by injection hk with hk; omega), hb⟩
theorem SX.pushB {w W W' : World} {r : ByteArray} {e : Int} {V1 V2 V1' : Value} {bl : List Blk} {es : List Ent} {b : Blk} (h : SX w W r e V1 V2 bl es) (hg : W.grownBy W' V1.ownBlock) (ho : W'.ownsRow (w.heap.size + 3) 64 2 V1' (bl.length + 1) (bl.flatMap encBlk ++ [.int .i64 b.first, .int .i64 b.bytes]))
  (h1 : I64 b.first) (h2 : I64 b.bytes) : SX w (W'.setCell ⟨w.heap.size + 2, 0, none⟩ V1') r e V1' V2 (bl ++ [b]) es :=
 ⟨h.1.pushB hg ho h1 h2, (h.2.1.grown hg (fun k hk => by have := (h.1.o1.lt k hk).1; omega)).far (by dsimp only; omega) _, (h.2.2.grown hg (fun k hk => by have := (h.1.o1.lt k hk).1; omega)).far (by dsimp only; omega) _⟩
theorem SX.pushE {w W W' : World} {r : ByteArray} {e : Int} {V1 V2 V2' : Value} {bl : List Blk} {es : List Ent} {x : Ent} (h : SX w W r e V1 V2 bl es) (hg : W.grownBy W' V2.ownBlock) (ho : W'.ownsRow (w.heap.size + 3) 70 4 V2' (es.length + 1) (es.flatMap encEnt ++ [.string x.name, .int .i64 x.block, .int .i64 x.at_, .int .i64 x.bytes]))
  (hx : EntOk x) : SX w (W'.setCell ⟨w.heap.size + 2, 1, none⟩ V2') r e V1 V2' bl (es ++ [x]) :=
 ⟨h.1.pushE hg ho hx, (h.2.1.grown hg (fun k hk => by have := (h.1.o2.lt k hk).1; omega)).far (by dsimp only; omega) _, (h.2.2.grown hg (fun k hk => by have := (h.1.o2.lt k hk).1; omega)).far (by dsimp only; omega) _⟩
theorem SX.off {w W : World} {r : ByteArray} {e : Int} {V1 V2 : Value} {bl : List Blk} {es : List Ent} {g : Nat} (h : SX w W r e V1 V2 bl es) (hg : w.heap.size + 3 ≤ g) (h1 : V1.ownBlock ≠ some g) (h2 : V2.ownBlock ≠ some g) (i : Nat) (u : Value) : SX w (W.setCell ⟨g, i, none⟩ u) r e V1 V2 bl es :=
 ⟨h.1.off (setRow_by W g i u) (by omega) (by omega) h1 h2, h.2.1.far (by dsimp only; omega) _, h.2.2.far (by dsimp only; omega) _⟩
theorem noCat_read (W : World) : RCat W [.slice none 0 0, .slice none 0 0] noCat :=
 ⟨_, _, rfl, SlR.of_own encBlk_ok (base := 0) (e := 64) (World.ownsRow_nil _ _ _ _) (by decide) (fun b hb => by cases hb), SlR.of_own encEnt_ok (base := 0) (e := 70) (World.ownsRow_nil _ _ _ _) (by decide) (fun b hb => by cases hb)⟩
theorem catDecode_any (s : ByteArray) (w : World) (hs : s.size ≤ 140737488355328) :
  Calls Tryz.prog 32 #[.string s] w fun e w' => ∃ A1 c1 A2 c2, e = .returned (.tuple #[.agg #[.slice A1 (decCatS s).1.blocks.length c1, .slice A2 (decCatS s).1.entries.length c2], .int .i64 (decCatS s).2]) ∧ Ext w w' ∧ RCat w' [.slice A1 (decCatS s).1.blocks.length c1, .slice A2 (decCatS s).1.entries.length c2] (decCatS s).1 := by
 obtain ⟨R, hR⟩ : ∃ R, R = decCatS s := ⟨_, rfl⟩
 obtain ⟨i0, hi0, hz0, hz1, hz2⟩ := info_parts info_blk
 have HIB := Lib.hid (And.intro hi0 (And.intro hz0 (And.intro hz1 hz2)))
 clear hi0 hz0 hz1 hz2
 obtain ⟨i1, hi0, hz0, hz1, hz2⟩ := info_parts info_ent
 have HIE := Lib.hid (And.intro hi0 (And.intro hz0 (And.intro hz1 hz2)))
 clear hi0 hz0 hz1 hz2
 have hst := BSt.start s
 rw [← hR] at hst ⊢
 clear hR
 go_enter Tryz.func32, Tryz.ntmps32
 go_wp2_with fail
 refine calls_abs (fun W => SX w W s 0 (.slice none 0 0) (.slice none 0 0) [] []) ⟨⟨(((Ext.refl _).alloc _).alloc _).alloc _, by omega, by omega, Blk_.new2 _ _ _ _ _, World.ownsRow_nil _ _ _ _, World.ownsRow_nil _ _ _ _, (fun _ h => by cases h), (fun _ h => by cases h)⟩, ((Blk_.new _ _ _).alloc _).alloc _, (Blk_.new1 _ _ _ _).alloc _⟩ ?_
 rintro W hS
 refine (number_any W (w.heap.size + 1) s 0 1 hS.2.2 hs (by omega)).mono ?_
 rintro en w1 ⟨rfl, hg, hb⟩
 have hbd := num_bound s 0 1 (by omega)
 have hee1 := num_e s 0 1 (.inl rfl)
 obtain ⟨X1, hX1⟩ : ∃ X, X = numR s 0 1 := ⟨_, rfl⟩
 rw [← hX1] at hb hbd hee1 hst ⊢
 obtain ⟨v1, r1, e1⟩ := X1
 dsimp only at hb hbd hee1 hst ⊢
 obtain ⟨vb1, vc1, vd1, ve1⟩ := hbd
 obtain ⟨n, hn⟩ := Int.eq_ofNat_of_zero_le vb1
 subst hn
 rw [Int.toNat_natCast] at hst
 have hn255 : n ≤ 255 := by have := vd1 (by omega); omega
 have HS1 := Lib.hid (hS.num hg hb)
 clear hg hb hX1 vb1 vc1 vd1 hS
 go_wp2_with fail
 go_loopw [6, 7] (fun pv kv wr => ∃ (k : Nat) (p : Int) (r : ByteArray) (e : Int) (A1 : Option Addr) (c1 : Nat) (bl : List Blk), pv = .int .i64 p ∧ kv = .int .i64 k ∧ k ≤ n ∧ bl.length = k ∧ 8 ≤ p ∧ p ≤ 8 + 2800 * (k : Int) ∧ (e = 0 ∨ e = 5) ∧ r.size ≤ s.size ∧ SX w wr r e (.slice A1 bl.length c1) (.slice none 0 0) bl [] ∧ BSt R (n - k) p bl r e) (fun _ kv _ => n - (intOf kv).toNat)
 case atStart => exact ⟨0, 8, r1, e1, none, 0, [], rfl, rfl, Nat.zero_le _, rfl, by omega, by omega, hee1, ve1, HS1.out, hst⟩
 case round =>
  clear HS1 hst hee1 ve1
  obtain ⟨k, p, r, e, A1, c1, bl, rfl, rfl, hk, hbl0, hp1, hp2, hee, hrs, hS, hst⟩ := hrel
  have HBL0 := Lib.hid hbl0
  have hbl1 : bl.length ≤ k := by omega
  clear hbl0
  have HS := Lib.hid hS
  clear hS
  by_cases hkn : k < n
  ·rcases hee with rfl | rfl
   ·have f0 := HS.out.2.2.cell 0
    have f1 := HS.out.2.2.cell 1
    have lr := HS.out.2.2.lt
    simp at f0 f1
    have hki : (k : Int) < (n : Int) := by omega
    have hkt : decide ((k : Int) < (n : Int)) = true := decide_eq_true hki
    have hj : n - k = (n - (k + 1)) + 1 := by omega
    rw [hj] at hst
    have HST := Lib.hid hst.step
    have HRE := Lib.hid hrs
    have HKN := Lib.hid hkn
    clear hst hj hrs
    go_wp2_with fail
    clear f0 f1
    refine (number_any wr (w.heap.size + 1) r 0 2 HS.out.2.2 (by have := HRE.out; omega) (by omega)).mono ?_
    rintro en w2 ⟨rfl, hg, hb⟩
    have hstt := HST.out
    have hbd := num_bound r 0 2 (by omega)
    have hee2 := num_e r 0 2 (.inl rfl)
    obtain ⟨X2, hX2⟩ : ∃ X, X = numR r 0 2 := ⟨_, rfl⟩
    rw [← hX2] at hb hbd hee2 hstt ⊢
    obtain ⟨v2, r2, e2⟩ := X2
    dsimp only at hb hbd hee2 hstt ⊢
    obtain ⟨vb2, vc2, _, ve2⟩ := hbd
    have HS2 := Lib.hid (HS.out.num hg hb)
    have HST2 := Lib.hid hstt
    have HE2 := Lib.hid hee2
    have HSZ := Lib.hid (show r2.size ≤ s.size by have := HRE.out; omega)
    clear hg hb hX2 hstt hee2 ve2 HST
    have g0 := HS2.out.1.cat.cell 0
    have g1 := HS2.out.1.cat.cell 1
    simp at g0 g1
    have lc := HS2.out.1.cat.lt
    have HBL := Lib.hid (show bl.length ≤ 255 by omega)
    have hbl : (bl.length : Int) ≤ 255 := by omega
    obtain ⟨q, hq⟩ : ∃ q, q = p + (v2 + 23) / 24 := ⟨_, rfl⟩
    have hq1 : p + (v2 + 23) / 24 = q := hq.symm
    have hqb : 8 ≤ q ∧ q ≤ 8 + 2800 * ((k : Int) + 1) := by omega
    have HQ := Lib.hid (show p + secs v2 = q from hq.symm)
    have HI1 := Lib.hid (show I64 p ∧ I64 v2 by constructor <;> (unfold I64; omega))
    clear hq
    have hp8 : p ≤ 1000000 := by omega
    go_wp2_with (first | (go_at_call 16; refine (sectors_any v2 _ vb2 (by omega)).mono ?_; rintro en w9 ⟨rfl, rfl⟩) | (at_builtin; refine wpList_append_at _ rfl (.tmp 42) (.tmp 44) 37 rfl (w.heap.size + 3) 64 i0 (.agg #[.int .i64 0, .int .i64 0]) 2 16 Tryz.underlying37 HIB.out.1 HIB.out.2.1 HIB.out.2.2.1 HIB.out.2.2.2 rfl (by decide) _ bl.length _ rfl (own_ext HS2.out.1.o1 (((Ext.refl _).alloc _).alloc _)) ⟨w2.heap.size + 1, 0, none⟩ 1 1 [.int .i64 p, .int .i64 v2] rfl rfl ?c1 ?c2 ?c3 ?c4 ?c5 ?_))
    case c1 =>
     intro j u hu
     rw [Addr.add_lit, Nat.zero_add, (Blk_.new1 w2 _ 64 _).cell]
     simpa using hu
    case c2 =>
     intro u hu
     simp only [List.mem_cons, List.not_mem_nil, or_false] at hu
     rcases hu with rfl | rfl <;> rfl
    case c3 => have := HBL.out; unfold maxLen; omega
    case c4 => have := HBL.out; omega
    case c5 => rw [World.size_alloc, World.size_alloc]; omega
    intro A7 c7 w7 own7 hg7 _
    have HC7 := Lib.hid (((HS2.out.1.cat.alloc _).alloc _).grown hg7 (fun k hk => by have := (HS2.out.1.o1.lt k hk).1; omega))
    have HS8 := Lib.hid ((HS2.out.up (((Ext.refl _).alloc _).alloc _)).pushB (b := ⟨p, v2⟩) hg7 own7 HI1.out.1 HI1.out.2)
    have q0 := HC7.out.cell 0
    have q1 := HC7.out.cell 1
    have z0 := HC7.out.frozen 0
    simp at q0 q1
    obtain ⟨bl2, hbl2⟩ : ∃ x, x = bl ++ [(⟨p, v2⟩ : Blk)] := ⟨_, rfl⟩
    have hl7 : bl.length + 1 = bl2.length := by rw [hbl2, List.length_append]; rfl
    rw [← hbl2] at HS8 HST2
    rw [hl7] at HS8 ⊢
    have HBL2 := Lib.hid (show bl2.length = k + 1 by rw [← hl7, HBL0.out])
    clear hbl2
    clear own7 hg7 g0 g1 HC7 hl7 HS2
    go_wp2_with fail
    go_roundw
    case rel => exact ⟨k + 1, q, r2, e2, A7, c7, bl2, by first | rfl | go_num, by first | rfl | go_num, by have := HKN.out; omega, HBL2.out, hqb.1, by have := hqb.2; omega, HE2.out, HSZ.out, HS8.out, by rw [← HQ.out]; exact HST2.out⟩
    case measure => have := HKN.out; (simp [intOf]; try omega)
   ·have hki : (k : Int) < (n : Int) := by omega
    have hkt : decide ((k : Int) < (n : Int)) = true := decide_eq_true hki
    have hbad : R = (noCat, 5) := by rcases hst with ⟨h, _⟩ | ⟨_, h⟩; exact absurd h (by decide); exact h
    have HPRE := Lib.hid (show BSt R 0 p bl r 5 ∨ ((5 : Int) = 5 ∧ R = (noCat, 5)) from .inr ⟨rfl, hbad⟩)
    have HEE := Lib.hid (show (5 : Int) = 0 ∨ (5 : Int) = 5 from .inr rfl)
    have f0 := HS.out.2.2.cell 0
    have f1 := HS.out.2.2.cell 1
    simp at f0 f1
    clear hst hbad
    have HMID := Lib.hid (BSt.mid (HPRE.out))
    have HRB := Lib.hid hrs
    have lr := HS.out.2.2.lt
    go_wp2_with fail
    refine (number_any wr (w.heap.size + 1) r 5 1 HS.out.2.2 (by have := HRB.out; omega) (by omega)).mono ?_
    rintro en wm ⟨rfl, hg, hb⟩
    have hmid := HMID.out.1
    have hbd := num_bound r 5 1 (by omega)
    have heem := num_e r 5 1 (by first | exact HEE.out | exact .inr rfl)
    obtain ⟨Xm, hXm⟩ : ∃ X, X = numR r 5 1 := ⟨_, rfl⟩
    rw [← hXm] at hb hbd heem hmid ⊢
    obtain ⟨vm, rm, em⟩ := Xm
    dsimp only at hb hbd heem hmid ⊢
    obtain ⟨vbm, vcm, vdm, vem⟩ := hbd
    obtain ⟨n2, hn2⟩ := Int.eq_ofNat_of_zero_le vbm
    subst hn2
    rw [Int.toNat_natCast] at hmid
    have hn255 : n2 ≤ 255 := by have := vdm (by omega); omega
    have HSm := Lib.hid (HS.out.num hg hb)
    have hrm : rm.size ≤ s.size := by have := HRB.out; omega
    have hbl300 : bl.length ≤ 300 := by omega
    clear hg hb hXm HMID vbm vcm vdm vem lr
    go_wp2_with fail
    go_loopw [10] (fun kv wr => ∃ (k : Nat) (r : ByteArray) (e : Int) (A2 : Option Addr) (c2 : Nat) (es : List Ent), kv = .int .i64 k ∧ k ≤ n2 ∧ es.length = k ∧ (e = 0 ∨ e = 5) ∧ r.size ≤ s.size ∧ SX w wr r e (.slice A1 bl.length c1) (.slice A2 es.length c2) bl es ∧ ESt R (n2 - k) bl es r e) (fun kv _ => n2 - (intOf kv).toNat)
    case atStart => exact ⟨0, rm, em, none, 0, [], rfl, Nat.zero_le _, rfl, heem, hrm, HSm.out, hmid⟩
    case round =>
     clear HSm hmid heem hrm
     obtain ⟨k, r, e, A2, c2, es, rfl, hk, hel0, hee, hrs, hS, hst⟩ := hrel
     have HEL0 := Lib.hid hel0
     have hel1 : es.length ≤ k := by omega
     clear hel0
     have HS := Lib.hid hS
     clear hS
     by_cases hkn : k < n2
     ·rcases hee with rfl | rfl
      ·have f0 := HS.out.2.2.cell 0
       have f1 := HS.out.2.2.cell 1
       have lr := HS.out.2.2.lt
       simp at f0 f1
       have hki : (k : Int) < (n2 : Int) := by omega
       have hkt : decide ((k : Int) < (n2 : Int)) = true := decide_eq_true hki
       have hj : n2 - k = (n2 - (k + 1)) + 1 := by omega
       rw [hj] at hst
       have HST := Lib.hid hst
       have HRE := Lib.hid hrs
       have HKN := Lib.hid hkn
       clear hst hj hrs
       go_wp2_with fail
       clear f0 f1
       refine (number_any wr (w.heap.size + 1) r 0 1 HS.out.2.2 (by have := HRE.out; omega) (by omega)).mono ?_
       rintro en w1 ⟨rfl, hg, hb⟩
       have hbd := num_bound r 0 1 (by omega)
       have hee1 := num_e r 0 1 (.inl rfl)
       obtain ⟨X1, hX1⟩ : ∃ X, X = numR r 0 1 := ⟨_, rfl⟩
       rw [← hX1] at hb hbd hee1 ⊢
       obtain ⟨v1, r1, e1⟩ := X1
       dsimp only at hb hbd hee1 ⊢
       obtain ⟨vb1, vc1, vd1, ve1⟩ := hbd
       have HS1 := Lib.hid (HS.out.num hg hb)
       have HX1 := Lib.hid hX1
       obtain ⟨m, hm⟩ := Int.eq_ofNat_of_zero_le vb1
       subst hm
       have hm255 : m ≤ 255 := by have := vd1 (by omega); omega
       have HE1 := Lib.hid hee1
       clear hg hb hX1 hee1 vb1 vc1 vd1
       have lr1 := HS1.out.2.2.lt
       go_wp2_with fail
       refine (take_any w1 (w.heap.size + 1) r1 e1 m HS1.out.2.2 (by have := HRE.out; omega) hm255).mono ?_
       rintro en w2 ⟨rfl, hg, hb⟩
       have hbd := take_len r1 e1 m
       have hee2 := take_e r1 e1 m HE1.out
       obtain ⟨X2, hX2⟩ : ∃ X, X = takeR r1 e1 m := ⟨_, rfl⟩
       rw [← hX2] at hb hbd hee2 ⊢
       obtain ⟨nm, r2, e2⟩ := X2
       dsimp only at hb hbd hee2 ⊢
       have HS2 := Lib.hid (HS1.out.num hg hb)
       have HX2 := Lib.hid hX2
       have HE2 := Lib.hid hee2
       have HNM := Lib.hid hbd.1
       have hr2 := hbd.2
       have lr2 := HS2.out.2.2.lt
       have lc2 := HS2.out.1.cat.lt
       clear hg hb hX2 hee2 hbd lr1
       go_wp2_with fail
       refine calls_abs (fun W => Ext w2 W ∧ Blk_ W w2.heap.size 70 #[.string nm, .int .i64 0, .int .i64 0, .int .i64 0]) ⟨(Ext.refl _).alloc _, Blk_.new _ _ _⟩ ?_
       rintro W2 ⟨hx, hb12⟩
       have HS2b := Lib.hid (HS2.out.up hx)
       have HB2 := Lib.hid hb12
       have HOW := Lib.hid (show (∀ k, (Value.slice A1 bl.length c1).ownBlock = some k → k < w2.heap.size) ∧ (∀ k, (Value.slice A2 es.length c2).ownBlock = some k → k < w2.heap.size) from ⟨fun k hk => (HS2.out.1.o1.lt k hk).2, fun k hk => (HS2.out.1.o2.lt k hk).2⟩)
       clear hx hb12 HS2
       refine (number_any W2 (w.heap.size + 1) r2 e2 1 HS2b.out.2.2 (by have := HRE.out; omega) (by omega)).mono ?_
       rintro en w3 ⟨rfl, hg, hb⟩
       have hbd := num_bound r2 e2 1 (by omega)
       have hee3 := num_e r2 e2 1 HE2.out
       obtain ⟨X3, hX3⟩ : ∃ X, X = numR r2 e2 1 := ⟨_, rfl⟩
       rw [← hX3] at hb hbd hee3 ⊢
       obtain ⟨v3, r3, e3⟩ := X3
       dsimp only at hb hbd hee3 ⊢
       obtain ⟨vb3, vc3, vd3, ve3⟩ := hbd
       have HS3 := Lib.hid (HS2b.out.num hg hb)
       have HX3 := Lib.hid hX3
       have HE3 := Lib.hid hee3
       have HB3 := Lib.hid (HB2.out.grown hg (fun k hk => by injection hk with hk; omega))
       have hr3 := ve3
       clear hg hb hX3 hee3 ve3
       have lr3 := HS3.out.2.2.lt
       clear HS2b HB2
       go_wp2_with fail
       refine (number_any w3 (w.heap.size + 1) r3 e3 2 HS3.out.2.2 (by have := HRE.out; omega) (by omega)).mono ?_
       rintro en w4 ⟨rfl, hg, hb⟩
       have hbd := num_bound r3 e3 2 (by omega)
       have hee4 := num_e r3 e3 2 HE3.out
       obtain ⟨X4, hX4⟩ : ∃ X, X = numR r3 e3 2 := ⟨_, rfl⟩
       rw [← hX4] at hb hbd hee4 ⊢
       obtain ⟨v4, r4, e4⟩ := X4
       dsimp only at hb hbd hee4 ⊢
       obtain ⟨vb4, vc4, vd4, ve4⟩ := hbd
       have HS4 := Lib.hid (HS3.out.num hg hb)
       have HX4 := Lib.hid hX4
       have HE4 := Lib.hid hee4
       have HB4 := Lib.hid (HB3.out.grown hg (fun k hk => by injection hk with hk; omega))
       have hr4 := ve4
       clear hg hb hX4 hee4 ve4
       have lr4 := HS4.out.2.2.lt
       clear HS3 HB3 lr3
       go_wp2_with fail
       refine (number_any w4 (w.heap.size + 1) r4 e4 1 HS4.out.2.2 (by have := HRE.out; omega) (by omega)).mono ?_
       rintro en w5 ⟨rfl, hg, hb⟩
       have hbd := num_bound r4 e4 1 (by omega)
       have hee5 := num_e r4 e4 1 HE4.out
       obtain ⟨X5, hX5⟩ : ∃ X, X = numR r4 e4 1 := ⟨_, rfl⟩
       rw [← hX5] at hb hbd hee5 ⊢
       obtain ⟨v5, r5, e5⟩ := X5
       dsimp only at hb hbd hee5 ⊢
       obtain ⟨vb5, vc5, vd5, ve5⟩ := hbd
       have HS5 := Lib.hid (HS4.out.num hg hb)
       have HX5 := Lib.hid hX5
       have HE5 := Lib.hid hee5
       have HB5 := Lib.hid (HB4.out.grown hg (fun k hk => by injection hk with hk; omega))
       have hr5 := ve5
       clear hg hb hX5 hee5 ve5
       have lr5 := HS5.out.2.2.lt
       clear HS4 HB4 lr4
       have HST5 := Lib.hid (ESt.step HST.out (by rw [← HX1.out]) (nm, r2, e2) (by rw [← HX1.out]; exact HX2.out) (v3, r3, e3) (v4, r4, e4) (v5, r5, e5) HX3.out HX4.out HX5.out)
       have b0 := HB5.out.cell 0
       have b1 := HB5.out.cell 1
       have b2 := HB5.out.cell 2
       have b3 := HB5.out.cell 3
       have y0 := HB5.out.frozen 0
       have y1 := HB5.out.frozen 1
       have y2 := HB5.out.frozen 2
       have y3 := HB5.out.frozen 3
       simp at b0 b1 b2 b3
       have lb := HB5.out.lt
       have g1 := HS5.out.1.cat.cell 1
       simp at g1
       have hn1 : (Value.slice A1 bl.length c1).ownBlock ≠ some w2.heap.size := fun h => by have := HOW.out.1 _ h; omega
       have hn2 : (Value.slice A2 es.length c2).ownBlock ≠ some w2.heap.size := fun h => by have := HOW.out.2 _ h; omega
       have HS6 := Lib.hid (((HS5.out.off (by omega) hn1 hn2 1 (.int .i64 v3)).off (by omega) hn1 hn2 2 (.int .i64 v4)).off (by omega) hn1 hn2 3 (.int .i64 v5))
       have HEL := Lib.hid (show es.length ≤ 255 by omega)
       have hel : (es.length : Int) ≤ 255 := by omega
       have HOK := Lib.hid (show EntOk ⟨nm, v3, v4, v5⟩ from ⟨by have := HNM.out; show nm.size ≤ _; omega, by show I64 v3; unfold I64; omega, by show I64 v4; unfold I64; omega, by show I64 v5; unfold I64; omega⟩)
       clear hn1 hn2 HB5 HS5
       go_wp2_with (at_builtin; refine wpList_append_at _ rfl (.tmp 76) (.tmp 78) 38 rfl (w.heap.size + 3) 70 i1 (.agg #[.string .empty, .int .i64 0, .int .i64 0, .int .i64 0]) 4 40 Tryz.underlying38 HIE.out.1 HIE.out.2.1 HIE.out.2.2.1 HIE.out.2.2.2 rfl (by decide) _ es.length _ rfl (own_ext HS6.out.1.o2 ((Ext.refl _).alloc _)) ⟨w5.heap.size, 0, none⟩ 1 1 [.string nm, .int .i64 v3, .int .i64 v4, .int .i64 v5] rfl rfl ?c1a ?c2 ?c3 ?c4 ?c5 ?_)
       case c2 =>
        first
        | exact ⟨rfl, rfl, rfl, rfl⟩
        | (intro u hu
           simp only [List.mem_cons, List.not_mem_nil, or_false] at hu
           rcases hu with rfl | rfl | rfl | rfl <;> rfl)
       case c3 => have := HEL.out; unfold maxLen; omega
       case c4 => have := HEL.out; omega
       case c5 =>
        have h5 := HS6.out.1.cat.lt
        simp only [World.size_setCell] at h5
        first
        | omega
        | (simp only [World.size_alloc, World.size_setCell]; omega)
       intro A7 c7 w7 own7 hg7 _
       have HC7 := Lib.hid ((HS6.out.1.cat.alloc _).grown hg7 (fun k hk => by have := (HS6.out.1.o2.lt k hk).1; omega))
       have HS8 := Lib.hid ((HS6.out.up ((Ext.refl _).alloc _)).pushE (x := ⟨nm, v3, v4, v5⟩) hg7 own7 HOK.out)
       have q0 := HC7.out.cell 0
       have q1 := HC7.out.cell 1
       have z1 := HC7.out.frozen 1
       simp at q0 q1
       obtain ⟨es2, hes2⟩ : ∃ x, x = es ++ [(⟨nm, v3, v4, v5⟩ : Ent)] := ⟨_, rfl⟩
       have hl7 : es.length + 1 = es2.length := by rw [hes2, List.length_append]; rfl
       rw [← hes2] at HS8 HST5
       rw [hl7] at HS8 ⊢
       have HES2 := Lib.hid (show es2.length = k + 1 by rw [← hl7, HEL0.out])
       clear hes2
       clear own7 hg7 b0 b1 b2 b3 y0 y1 y2 y3 g1 HS6 HC7 hl7 lb
       go_wp2_with fail
       go_roundw
       case rel => exact ⟨k + 1, r5, e5, A7, c7, es2, by first | rfl | go_num, by have := HKN.out; omega, HES2.out, HE5.out, by have := HRE.out; omega, HS8.out, HST5.out⟩
       case measure => have := HKN.out; (simp [intOf]; try omega)
      ·have HST := Lib.hid hst
       have hki : (k : Int) < (n2 : Int) := by omega
       have hkt : decide ((k : Int) < (n2 : Int)) = true := decide_eq_true hki
       clear hst
       have HRR := Lib.hid (show R = (noCat, 5) from HST.out.bad)
       have z0 := HS.out.2.1.frozen 0
       have z1 := HS.out.2.1.frozen 1
       have m0 := HS.out.2.1.cell 0
       have m1 := HS.out.2.1.cell 1
       have f0 := HS.out.2.2.cell 0
       have f1 := HS.out.2.2.cell 1
       simp at m0 m1 f0 f1
       go_wp2_with fail
       refine wp_region_begin (S := fun W' => W'.cell? ⟨w.heap.size + 1, 1, none⟩ = some (.int .i64 5)) (n := 6) (by kernel_rfl) rfl (by kernel_rfl) rfl ?_
       have hS0 : (fun W' => W'.cell? ⟨w.heap.size + 1, 1, none⟩ = some (.int .i64 5)) (wr).drew := f1
       refine tkL 0 rfl (fun w' hS => by (try dsimp only at hS); go_simp; rfl) hS0 ?_
       refine tkL 1 rfl (fun w' hS => by (try dsimp only at hS); go_simp; rfl) hS0 ?_
       refine tkL 2 rfl (fun w' hS => by (try dsimp only at hS); go_simp; rfl) hS0 ?_
       try simp only [Act.put, List.setIfInBounds_toArray, List.set_cons_zero, List.set_cons_succ]
       refine tkL 3 rfl (fun w' hS => by (try dsimp only at hS); go_simp; rfl) hS0 ?_
       refine tkL 4 rfl (fun w' hS => by (try dsimp only at hS); go_simp; rfl) hS0 ?_
       try simp only [Act.put, List.setIfInBounds_toArray, List.set_cons_zero, List.set_cons_succ]
       refine wpAnyH_oneL (i := 5) rfl (by kernel_rfl) rfl (fun K hK => ?_)
       go_wp2_with fail
       have hxx := (HS.out.1.ext.drew.setCell (p := ⟨w.heap.size, 0, none⟩) (Nat.le_refl _) (.slice none 0 0)).setCell (p := ⟨w.heap.size, 1, none⟩) (Nat.le_refl _) (.slice none 0 0)
       have hrd := (HS.out.2.2.drew.far (p := ⟨w.heap.size, 0, none⟩) (by dsimp only; omega) (.slice none 0 0)).far (p := ⟨w.heap.size, 1, none⟩) (by dsimp only; omega) (.slice none 0 0)
       have hrs := (HS.out.2.1.drew.set 0 (.slice none 0 0)).set 1 (.slice none 0 0)
       have HXX := Lib.hid hxx
       have HRS := Lib.hid hrs
       have hrd2 := (HS.out.2.2.far (p := ⟨w.heap.size, 0, none⟩) (by dsimp only; omega) (.slice none 0 0)).far (p := ⟨w.heap.size, 1, none⟩) (by dsimp only; omega) (.slice none 0 0)
       refine hK _ _ (by first | (have := hrd2.cell 1; simpa using this) | (have := hrd.cell 1; simpa using this)) ?_
       clear hK K hxx hrd hrs hrd2
       try simp only [Act.put, List.setIfInBounds_toArray, List.set_cons_zero, List.set_cons_succ]
       refine wpAnyH_endL (by kernel_rfl) (fun K hK => ?_)
       go_wp2_with fail
       refine bodyPost_ret (res_cell_tmp rfl rfl HRS.out Tryz.underlying40 rfl (by kernel_rfl)) rfl ?_
       rw [HRR.out]
       exact ⟨none, 0, none, 0, rfl, HXX.out, noCat_read _⟩
     ·have hki : ¬ (k : Int) < (n2 : Int) := by omega
      have hkt : decide ((k : Int) < (n2 : Int)) = false := decide_eq_false hki
      obtain rfl : k = n2 := by omega
      rw [Nat.sub_self] at hst
      have HST := Lib.hid hst
      clear hst
      have hes300 : es.length ≤ 300 := by omega
      rcases hee with rfl | rfl
      ·have HRR := Lib.hid HST.out.fin
       have f0 := HS.out.2.2.cell 0
       have f1 := HS.out.2.2.cell 1
       have lr := HS.out.2.2.lt
       simp at f0 f1
       go_wp2_with fail
       refine (trim_any r _ (by omega)).mono ?_
       rintro en w9 ⟨hx9, tv, rfl, htr⟩
       have HS9 := Lib.hid (HS.out.up hx9)
       clear f0 f1 hx9
       cases hz : zeros r with
       | false =>
        have hne := htr.some hz
        have HR4 := Lib.hid (show R = (noCat, 4) by rw [HRR.out]; unfold endCat; rw [show (lst r).all (· == 0) = false from hz]; rfl)
        have hne2 : (tv.toList == []) = false := by
         rw [toList_lst]
         refine beq_false_of_ne (fun h => hne ?_)
         exact size0_empty (by rw [← length_lst, h]; rfl)
        have hne3 : (!(tv.toList == [])) = true := by rw [hne2]; rfl
        have hne4 : ¬ tv = ⟨#[]⟩ := fun h => hne (by rw [h]; rfl)
        have z1 := HS9.out.2.2.frozen 1
        have f0 := HS9.out.2.2.cell 0
        have f1 := HS9.out.2.2.cell 1
        have lr := HS9.out.2.2.lt
        simp at f0 f1
        have HS4 := Lib.hid (HS9.out.num (setRow_by w9 (w.heap.size + 1) 1 (.int .i64 4)) (HS9.out.2.2.set 1 (.int .i64 4)))
        clear hz htr
        have lr4 := HS4.out.2.2.lt
        go_wp2_with fail
        clear f0 f1 z1
        obtain ⟨W4, hW4⟩ : ∃ W4, W4 = w9.setCell ⟨w.heap.size + 1, 1, none⟩ (.int .i64 4) := ⟨_, rfl⟩
        rw [← hW4] at HS4 lr4 ⊢
        clear hW4
        have z0 := HS4.out.2.1.frozen 0
        have z1 := HS4.out.2.1.frozen 1
        have m0 := HS4.out.2.1.cell 0
        have m1 := HS4.out.2.1.cell 1
        have f0 := HS4.out.2.2.cell 0
        have f1 := HS4.out.2.2.cell 1
        simp at m0 m1 f0 f1
        go_wp2_with fail
        refine wp_region_begin (S := fun W' => W'.cell? ⟨w.heap.size + 1, 1, none⟩ = some (.int .i64 4)) (n := 6) (by kernel_rfl) rfl (by kernel_rfl) rfl ?_
        have hS0 : (fun W' => W'.cell? ⟨w.heap.size + 1, 1, none⟩ = some (.int .i64 4)) (W4).drew := f1
        refine tkL 0 rfl (fun w' hS => by (try dsimp only at hS); go_simp; rfl) hS0 ?_
        refine tkL 1 rfl (fun w' hS => by (try dsimp only at hS); go_simp; rfl) hS0 ?_
        refine tkL 2 rfl (fun w' hS => by (try dsimp only at hS); go_simp; rfl) hS0 ?_
        try simp only [Act.put, List.setIfInBounds_toArray, List.set_cons_zero, List.set_cons_succ]
        refine tkL 3 rfl (fun w' hS => by (try dsimp only at hS); go_simp; rfl) hS0 ?_
        refine tkL 4 rfl (fun w' hS => by (try dsimp only at hS); go_simp; rfl) hS0 ?_
        try simp only [Act.put, List.setIfInBounds_toArray, List.set_cons_zero, List.set_cons_succ]
        refine wpAnyH_oneL (i := 5) rfl (by kernel_rfl) rfl (fun K hK => ?_)
        go_wp2_with fail
        have hxx := (HS4.out.1.ext.drew.setCell (p := ⟨w.heap.size, 0, none⟩) (Nat.le_refl _) (.slice none 0 0)).setCell (p := ⟨w.heap.size, 1, none⟩) (Nat.le_refl _) (.slice none 0 0)
        have hrd := (HS4.out.2.2.drew.far (p := ⟨w.heap.size, 0, none⟩) (by dsimp only; omega) (.slice none 0 0)).far (p := ⟨w.heap.size, 1, none⟩) (by dsimp only; omega) (.slice none 0 0)
        have hrs := (HS4.out.2.1.drew.set 0 (.slice none 0 0)).set 1 (.slice none 0 0)
        have HXX := Lib.hid hxx
        have HRS := Lib.hid hrs
        have hrd2 := (HS4.out.2.2.far (p := ⟨w.heap.size, 0, none⟩) (by dsimp only; omega) (.slice none 0 0)).far (p := ⟨w.heap.size, 1, none⟩) (by dsimp only; omega) (.slice none 0 0)
        refine hK _ _ (by first | (have := hrd2.cell 1; simpa using this) | (have := hrd.cell 1; simpa using this)) ?_
        clear hK K hxx hrd hrs hrd2
        try simp only [Act.put, List.setIfInBounds_toArray, List.set_cons_zero, List.set_cons_succ]
        refine wpAnyH_endL (by kernel_rfl) (fun K hK => ?_)
        go_wp2_with fail
        refine bodyPost_ret (res_cell_tmp rfl rfl HRS.out Tryz.underlying40 rfl (by kernel_rfl)) rfl ?_
        rw [HR4.out]
        exact ⟨none, 0, none, 0, rfl, HXX.out, noCat_read _⟩
       | true =>
        obtain rfl := htr.all hz
        have HR0 := Lib.hid (show R = (if catFault ⟨bl, es⟩ = 0 then (⟨bl, es⟩, 0) else (noCat, catFault ⟨bl, es⟩)) by rw [HRR.out]; unfold endCat; rw [show (lst r).all (· == 0) = true from hz]; rfl)
        have f0 := HS9.out.2.2.cell 0
        have f1 := HS9.out.2.2.cell 1
        have lr := HS9.out.2.2.lt
        simp at f0 f1
        have g0 := HS9.out.1.cat.cell 0
        have g1 := HS9.out.1.cat.cell 1
        simp at g0 g1
        clear hz htr
        go_wp2_with fail
        refine (catCheck_any _ ⟨bl, es⟩ w9 (HS9.out.1.rcat (show bl.length ≤ 1000 by omega) (show es.length ≤ 1000 by omega))).mono ?_
        rintro en w10 ⟨rfl, hx10⟩
        have HS10 := Lib.hid (HS9.out.up hx10)
        clear f0 f1 g0 g1 hx10
        have z0 := HS10.out.2.1.frozen 0
        have z1 := HS10.out.2.1.frozen 1
        have m0 := HS10.out.2.1.cell 0
        have m1 := HS10.out.2.1.cell 1
        have g0 := HS10.out.1.cat.cell 0
        have g1 := HS10.out.1.cat.cell 1
        simp at m0 m1 g0 g1
        have HL3 := Lib.hid (show bl.length ≤ 1000 ∧ es.length ≤ 1000 by omega)
        by_cases hc : catFault ⟨bl, es⟩ = 0
        ·have HRC := Lib.hid (show R = (⟨bl, es⟩, 0) by rw [HR0.out, if_pos hc])
         rw [hc]
         clear hc
         go_wp2_with fail
         have HXX := Lib.hid ((HS10.out.1.ext.setCell (p := ⟨w.heap.size, 0, none⟩) (Nat.le_refl _) (.slice A1 bl.length c1)).setCell (p := ⟨w.heap.size, 1, none⟩) (Nat.le_refl _) (.slice A2 es.length c2))
         have HRS := Lib.hid ((HS10.out.2.1.set 0 (.slice A1 bl.length c1)).set 1 (.slice A2 es.length c2))
         have HCX := Lib.hid ((HS10.out.1.by_ (setRow_by w10 w.heap.size 0 (.slice A1 bl.length c1)) (Nat.le_refl _) (by omega) (by omega)).by_ (setRow_by _ w.heap.size 1 (.slice A2 es.length c2)) (Nat.le_refl _) (by omega) (by omega))
         refine bodyPost_ret (res_cell_tmp rfl rfl HRS.out Tryz.underlying40 rfl (by kernel_rfl)) rfl ?_
         rw [HRC.out]
         exact ⟨A1, c1, A2, c2, rfl, HXX.out, HCX.out.rcat HL3.out.1 HL3.out.2⟩
        ·have HRC := Lib.hid (show R = (noCat, catFault ⟨bl, es⟩) by rw [HR0.out, if_neg hc])
         have hc' : (catFault ⟨bl, es⟩ != 0) = true := by simpa using hc
         clear hc HR0
         generalize catFault ⟨bl, es⟩ = cf at *
         go_wp2_with fail
         have HXX := Lib.hid ((HS10.out.1.ext.setCell (p := ⟨w.heap.size, 0, none⟩) (Nat.le_refl _) (.slice none 0 0)).setCell (p := ⟨w.heap.size, 1, none⟩) (Nat.le_refl _) (.slice none 0 0))
         have HRS := Lib.hid ((HS10.out.2.1.set 0 (.slice none 0 0)).set 1 (.slice none 0 0))
         refine bodyPost_ret (res_cell_tmp rfl rfl HRS.out Tryz.underlying40 rfl (by kernel_rfl)) rfl ?_
         rw [HRC.out]
         exact ⟨none, 0, none, 0, rfl, HXX.out, noCat_read _⟩
      ·have HRR := Lib.hid (show R = (noCat, 5) from HST.out.bad)
       have z0 := HS.out.2.1.frozen 0
       have z1 := HS.out.2.1.frozen 1
       have m0 := HS.out.2.1.cell 0
       have m1 := HS.out.2.1.cell 1
       have f0 := HS.out.2.2.cell 0
       have f1 := HS.out.2.2.cell 1
       simp at m0 m1 f0 f1
       go_wp2_with fail
       refine wp_region_begin (S := fun W' => W'.cell? ⟨w.heap.size + 1, 1, none⟩ = some (.int .i64 5)) (n := 6) (by kernel_rfl) rfl (by kernel_rfl) rfl ?_
       have hS0 : (fun W' => W'.cell? ⟨w.heap.size + 1, 1, none⟩ = some (.int .i64 5)) (wr).drew := f1
       refine tkL 0 rfl (fun w' hS => by (try dsimp only at hS); go_simp; rfl) hS0 ?_
       refine tkL 1 rfl (fun w' hS => by (try dsimp only at hS); go_simp; rfl) hS0 ?_
       refine tkL 2 rfl (fun w' hS => by (try dsimp only at hS); go_simp; rfl) hS0 ?_
       try simp only [Act.put, List.setIfInBounds_toArray, List.set_cons_zero, List.set_cons_succ]
       refine tkL 3 rfl (fun w' hS => by (try dsimp only at hS); go_simp; rfl) hS0 ?_
       refine tkL 4 rfl (fun w' hS => by (try dsimp only at hS); go_simp; rfl) hS0 ?_
       try simp only [Act.put, List.setIfInBounds_toArray, List.set_cons_zero, List.set_cons_succ]
       refine wpAnyH_oneL (i := 5) rfl (by kernel_rfl) rfl (fun K hK => ?_)
       go_wp2_with fail
       have hxx := (HS.out.1.ext.drew.setCell (p := ⟨w.heap.size, 0, none⟩) (Nat.le_refl _) (.slice none 0 0)).setCell (p := ⟨w.heap.size, 1, none⟩) (Nat.le_refl _) (.slice none 0 0)
       have hrd := (HS.out.2.2.drew.far (p := ⟨w.heap.size, 0, none⟩) (by dsimp only; omega) (.slice none 0 0)).far (p := ⟨w.heap.size, 1, none⟩) (by dsimp only; omega) (.slice none 0 0)
       have hrs := (HS.out.2.1.drew.set 0 (.slice none 0 0)).set 1 (.slice none 0 0)
       have HXX := Lib.hid hxx
       have HRS := Lib.hid hrs
       have hrd2 := (HS.out.2.2.far (p := ⟨w.heap.size, 0, none⟩) (by dsimp only; omega) (.slice none 0 0)).far (p := ⟨w.heap.size, 1, none⟩) (by dsimp only; omega) (.slice none 0 0)
       refine hK _ _ (by first | (have := hrd2.cell 1; simpa using this) | (have := hrd.cell 1; simpa using this)) ?_
       clear hK K hxx hrd hrs hrd2
       try simp only [Act.put, List.setIfInBounds_toArray, List.set_cons_zero, List.set_cons_succ]
       refine wpAnyH_endL (by kernel_rfl) (fun K hK => ?_)
       go_wp2_with fail
       refine bodyPost_ret (res_cell_tmp rfl rfl HRS.out Tryz.underlying40 rfl (by kernel_rfl)) rfl ?_
       rw [HRR.out]
       exact ⟨none, 0, none, 0, rfl, HXX.out, noCat_read _⟩
  ·have hki : ¬ (k : Int) < (n : Int) := by omega
   have hkt : decide ((k : Int) < (n : Int)) = false := decide_eq_false hki
   obtain rfl : k = n := by omega
   rw [Nat.sub_self] at hst
   have HPRE := Lib.hid (show BSt R 0 p bl r e ∨ (e = 5 ∧ R = (noCat, 5)) from .inl hst)
   have HEE := Lib.hid hee
   clear hst hee
   have HMID := Lib.hid (BSt.mid (HPRE.out))
   have HRB := Lib.hid hrs
   have lr := HS.out.2.2.lt
   go_wp2_with fail
   refine (number_any wr (w.heap.size + 1) r e 1 HS.out.2.2 (by have := HRB.out; omega) (by omega)).mono ?_
   rintro en wm ⟨rfl, hg, hb⟩
   have hmid := HMID.out.1
   have hbd := num_bound r e 1 (by omega)
   have heem := num_e r e 1 (by first | exact HEE.out | exact .inr rfl)
   obtain ⟨Xm, hXm⟩ : ∃ X, X = numR r e 1 := ⟨_, rfl⟩
   rw [← hXm] at hb hbd heem hmid ⊢
   obtain ⟨vm, rm, em⟩ := Xm
   dsimp only at hb hbd heem hmid ⊢
   obtain ⟨vbm, vcm, vdm, vem⟩ := hbd
   obtain ⟨n2, hn2⟩ := Int.eq_ofNat_of_zero_le vbm
   subst hn2
   rw [Int.toNat_natCast] at hmid
   have hn255 : n2 ≤ 255 := by have := vdm (by omega); omega
   have HSm := Lib.hid (HS.out.num hg hb)
   have hrm : rm.size ≤ s.size := by have := HRB.out; omega
   have hbl300 : bl.length ≤ 300 := by omega
   clear hg hb hXm HMID vbm vcm vdm vem lr
   go_wp2_with fail
   go_loopw [10] (fun kv wr => ∃ (k : Nat) (r : ByteArray) (e : Int) (A2 : Option Addr) (c2 : Nat) (es : List Ent), kv = .int .i64 k ∧ k ≤ n2 ∧ es.length = k ∧ (e = 0 ∨ e = 5) ∧ r.size ≤ s.size ∧ SX w wr r e (.slice A1 bl.length c1) (.slice A2 es.length c2) bl es ∧ ESt R (n2 - k) bl es r e) (fun kv _ => n2 - (intOf kv).toNat)
   case atStart => exact ⟨0, rm, em, none, 0, [], rfl, Nat.zero_le _, rfl, heem, hrm, HSm.out, hmid⟩
   case round =>
    clear HSm hmid heem hrm
    obtain ⟨k, r, e, A2, c2, es, rfl, hk, hel0, hee, hrs, hS, hst⟩ := hrel
    have HEL0 := Lib.hid hel0
    have hel1 : es.length ≤ k := by omega
    clear hel0
    have HS := Lib.hid hS
    clear hS
    by_cases hkn : k < n2
    ·rcases hee with rfl | rfl
     ·have f0 := HS.out.2.2.cell 0
      have f1 := HS.out.2.2.cell 1
      have lr := HS.out.2.2.lt
      simp at f0 f1
      have hki : (k : Int) < (n2 : Int) := by omega
      have hkt : decide ((k : Int) < (n2 : Int)) = true := decide_eq_true hki
      have hj : n2 - k = (n2 - (k + 1)) + 1 := by omega
      rw [hj] at hst
      have HST := Lib.hid hst
      have HRE := Lib.hid hrs
      have HKN := Lib.hid hkn
      clear hst hj hrs
      go_wp2_with fail
      clear f0 f1
      refine (number_any wr (w.heap.size + 1) r 0 1 HS.out.2.2 (by have := HRE.out; omega) (by omega)).mono ?_
      rintro en w1 ⟨rfl, hg, hb⟩
      have hbd := num_bound r 0 1 (by omega)
      have hee1 := num_e r 0 1 (.inl rfl)
      obtain ⟨X1, hX1⟩ : ∃ X, X = numR r 0 1 := ⟨_, rfl⟩
      rw [← hX1] at hb hbd hee1 ⊢
      obtain ⟨v1, r1, e1⟩ := X1
      dsimp only at hb hbd hee1 ⊢
      obtain ⟨vb1, vc1, vd1, ve1⟩ := hbd
      have HS1 := Lib.hid (HS.out.num hg hb)
      have HX1 := Lib.hid hX1
      obtain ⟨m, hm⟩ := Int.eq_ofNat_of_zero_le vb1
      subst hm
      have hm255 : m ≤ 255 := by have := vd1 (by omega); omega
      have HE1 := Lib.hid hee1
      clear hg hb hX1 hee1 vb1 vc1 vd1
      have lr1 := HS1.out.2.2.lt
      go_wp2_with fail
      refine (take_any w1 (w.heap.size + 1) r1 e1 m HS1.out.2.2 (by have := HRE.out; omega) hm255).mono ?_
      rintro en w2 ⟨rfl, hg, hb⟩
      have hbd := take_len r1 e1 m
      have hee2 := take_e r1 e1 m HE1.out
      obtain ⟨X2, hX2⟩ : ∃ X, X = takeR r1 e1 m := ⟨_, rfl⟩
      rw [← hX2] at hb hbd hee2 ⊢
      obtain ⟨nm, r2, e2⟩ := X2
      dsimp only at hb hbd hee2 ⊢
      have HS2 := Lib.hid (HS1.out.num hg hb)
      have HX2 := Lib.hid hX2
      have HE2 := Lib.hid hee2
      have HNM := Lib.hid hbd.1
      have hr2 := hbd.2
      have lr2 := HS2.out.2.2.lt
      have lc2 := HS2.out.1.cat.lt
      clear hg hb hX2 hee2 hbd lr1
      go_wp2_with fail
      refine calls_abs (fun W => Ext w2 W ∧ Blk_ W w2.heap.size 70 #[.string nm, .int .i64 0, .int .i64 0, .int .i64 0]) ⟨(Ext.refl _).alloc _, Blk_.new _ _ _⟩ ?_
      rintro W2 ⟨hx, hb12⟩
      have HS2b := Lib.hid (HS2.out.up hx)
      have HB2 := Lib.hid hb12
      have HOW := Lib.hid (show (∀ k, (Value.slice A1 bl.length c1).ownBlock = some k → k < w2.heap.size) ∧ (∀ k, (Value.slice A2 es.length c2).ownBlock = some k → k < w2.heap.size) from ⟨fun k hk => (HS2.out.1.o1.lt k hk).2, fun k hk => (HS2.out.1.o2.lt k hk).2⟩)
      clear hx hb12 HS2
      refine (number_any W2 (w.heap.size + 1) r2 e2 1 HS2b.out.2.2 (by have := HRE.out; omega) (by omega)).mono ?_
      rintro en w3 ⟨rfl, hg, hb⟩
      have hbd := num_bound r2 e2 1 (by omega)
      have hee3 := num_e r2 e2 1 HE2.out
      obtain ⟨X3, hX3⟩ : ∃ X, X = numR r2 e2 1 := ⟨_, rfl⟩
      rw [← hX3] at hb hbd hee3 ⊢
      obtain ⟨v3, r3, e3⟩ := X3
      dsimp only at hb hbd hee3 ⊢
      obtain ⟨vb3, vc3, vd3, ve3⟩ := hbd
      have HS3 := Lib.hid (HS2b.out.num hg hb)
      have HX3 := Lib.hid hX3
      have HE3 := Lib.hid hee3
      have HB3 := Lib.hid (HB2.out.grown hg (fun k hk => by injection hk with hk; omega))
      have hr3 := ve3
      clear hg hb hX3 hee3 ve3
      have lr3 := HS3.out.2.2.lt
      clear HS2b HB2
      go_wp2_with fail
      refine (number_any w3 (w.heap.size + 1) r3 e3 2 HS3.out.2.2 (by have := HRE.out; omega) (by omega)).mono ?_
      rintro en w4 ⟨rfl, hg, hb⟩
      have hbd := num_bound r3 e3 2 (by omega)
      have hee4 := num_e r3 e3 2 HE3.out
      obtain ⟨X4, hX4⟩ : ∃ X, X = numR r3 e3 2 := ⟨_, rfl⟩
      rw [← hX4] at hb hbd hee4 ⊢
      obtain ⟨v4, r4, e4⟩ := X4
      dsimp only at hb hbd hee4 ⊢
      obtain ⟨vb4, vc4, vd4, ve4⟩ := hbd
      have HS4 := Lib.hid (HS3.out.num hg hb)
      have HX4 := Lib.hid hX4
      have HE4 := Lib.hid hee4
      have HB4 := Lib.hid (HB3.out.grown hg (fun k hk => by injection hk with hk; omega))
      have hr4 := ve4
      clear hg hb hX4 hee4 ve4
      have lr4 := HS4.out.2.2.lt
      clear HS3 HB3 lr3
      go_wp2_with fail
      refine (number_any w4 (w.heap.size + 1) r4 e4 1 HS4.out.2.2 (by have := HRE.out; omega) (by omega)).mono ?_
      rintro en w5 ⟨rfl, hg, hb⟩
      have hbd := num_bound r4 e4 1 (by omega)
      have hee5 := num_e r4 e4 1 HE4.out
      obtain ⟨X5, hX5⟩ : ∃ X, X = numR r4 e4 1 := ⟨_, rfl⟩
      rw [← hX5] at hb hbd hee5 ⊢
      obtain ⟨v5, r5, e5⟩ := X5
      dsimp only at hb hbd hee5 ⊢
      obtain ⟨vb5, vc5, vd5, ve5⟩ := hbd
      have HS5 := Lib.hid (HS4.out.num hg hb)
      have HX5 := Lib.hid hX5
      have HE5 := Lib.hid hee5
      have HB5 := Lib.hid (HB4.out.grown hg (fun k hk => by injection hk with hk; omega))
      have hr5 := ve5
      clear hg hb hX5 hee5 ve5
      have lr5 := HS5.out.2.2.lt
      clear HS4 HB4 lr4
      have HST5 := Lib.hid (ESt.step HST.out (by rw [← HX1.out]) (nm, r2, e2) (by rw [← HX1.out]; exact HX2.out) (v3, r3, e3) (v4, r4, e4) (v5, r5, e5) HX3.out HX4.out HX5.out)
      have b0 := HB5.out.cell 0
      have b1 := HB5.out.cell 1
      have b2 := HB5.out.cell 2
      have b3 := HB5.out.cell 3
      have y0 := HB5.out.frozen 0
      have y1 := HB5.out.frozen 1
      have y2 := HB5.out.frozen 2
      have y3 := HB5.out.frozen 3
      simp at b0 b1 b2 b3
      have lb := HB5.out.lt
      have g1 := HS5.out.1.cat.cell 1
      simp at g1
      have hn1 : (Value.slice A1 bl.length c1).ownBlock ≠ some w2.heap.size := fun h => by have := HOW.out.1 _ h; omega
      have hn2 : (Value.slice A2 es.length c2).ownBlock ≠ some w2.heap.size := fun h => by have := HOW.out.2 _ h; omega
      have HS6 := Lib.hid (((HS5.out.off (by omega) hn1 hn2 1 (.int .i64 v3)).off (by omega) hn1 hn2 2 (.int .i64 v4)).off (by omega) hn1 hn2 3 (.int .i64 v5))
      have HEL := Lib.hid (show es.length ≤ 255 by omega)
      have hel : (es.length : Int) ≤ 255 := by omega
      have HOK := Lib.hid (show EntOk ⟨nm, v3, v4, v5⟩ from ⟨by have := HNM.out; show nm.size ≤ _; omega, by show I64 v3; unfold I64; omega, by show I64 v4; unfold I64; omega, by show I64 v5; unfold I64; omega⟩)
      clear hn1 hn2 HB5 HS5
      go_wp2_with (at_builtin; refine wpList_append_at _ rfl (.tmp 76) (.tmp 78) 38 rfl (w.heap.size + 3) 70 i1 (.agg #[.string .empty, .int .i64 0, .int .i64 0, .int .i64 0]) 4 40 Tryz.underlying38 HIE.out.1 HIE.out.2.1 HIE.out.2.2.1 HIE.out.2.2.2 rfl (by decide) _ es.length _ rfl (own_ext HS6.out.1.o2 ((Ext.refl _).alloc _)) ⟨w5.heap.size, 0, none⟩ 1 1 [.string nm, .int .i64 v3, .int .i64 v4, .int .i64 v5] rfl rfl ?c1b ?c2 ?c3 ?c4 ?c5 ?_)
      case c2 =>
       first
       | exact ⟨rfl, rfl, rfl, rfl⟩
       | (intro u hu
          simp only [List.mem_cons, List.not_mem_nil, or_false] at hu
          rcases hu with rfl | rfl | rfl | rfl <;> rfl)
      case c3 => have := HEL.out; unfold maxLen; omega
      case c4 => have := HEL.out; omega
      case c5 =>
       have h5 := HS6.out.1.cat.lt
       simp only [World.size_setCell] at h5
       first
       | omega
       | (simp only [World.size_alloc, World.size_setCell]; omega)
      intro A7 c7 w7 own7 hg7 _
      have HC7 := Lib.hid ((HS6.out.1.cat.alloc _).grown hg7 (fun k hk => by have := (HS6.out.1.o2.lt k hk).1; omega))
      have HS8 := Lib.hid ((HS6.out.up ((Ext.refl _).alloc _)).pushE (x := ⟨nm, v3, v4, v5⟩) hg7 own7 HOK.out)
      have q0 := HC7.out.cell 0
      have q1 := HC7.out.cell 1
      have z1 := HC7.out.frozen 1
      simp at q0 q1
      obtain ⟨es2, hes2⟩ : ∃ x, x = es ++ [(⟨nm, v3, v4, v5⟩ : Ent)] := ⟨_, rfl⟩
      have hl7 : es.length + 1 = es2.length := by rw [hes2, List.length_append]; rfl
      rw [← hes2] at HS8 HST5
      rw [hl7] at HS8 ⊢
      have HES2 := Lib.hid (show es2.length = k + 1 by rw [← hl7, HEL0.out])
      clear hes2
      clear own7 hg7 b0 b1 b2 b3 y0 y1 y2 y3 g1 HS6 HC7 hl7 lb
      go_wp2_with fail
      go_roundw
      case rel => exact ⟨k + 1, r5, e5, A7, c7, es2, by first | rfl | go_num, by have := HKN.out; omega, HES2.out, HE5.out, by have := HRE.out; omega, HS8.out, HST5.out⟩
      case measure => have := HKN.out; (simp [intOf]; try omega)
     ·have HST := Lib.hid hst
      have hki : (k : Int) < (n2 : Int) := by omega
      have hkt : decide ((k : Int) < (n2 : Int)) = true := decide_eq_true hki
      clear hst
      have HRR := Lib.hid (show R = (noCat, 5) from HST.out.bad)
      have z0 := HS.out.2.1.frozen 0
      have z1 := HS.out.2.1.frozen 1
      have m0 := HS.out.2.1.cell 0
      have m1 := HS.out.2.1.cell 1
      have f0 := HS.out.2.2.cell 0
      have f1 := HS.out.2.2.cell 1
      simp at m0 m1 f0 f1
      go_wp2_with fail
      refine wp_region_begin (S := fun W' => W'.cell? ⟨w.heap.size + 1, 1, none⟩ = some (.int .i64 5)) (n := 6) (by kernel_rfl) rfl (by kernel_rfl) rfl ?_
      have hS0 : (fun W' => W'.cell? ⟨w.heap.size + 1, 1, none⟩ = some (.int .i64 5)) (wr).drew := f1
      refine tkL 0 rfl (fun w' hS => by (try dsimp only at hS); go_simp; rfl) hS0 ?_
      refine tkL 1 rfl (fun w' hS => by (try dsimp only at hS); go_simp; rfl) hS0 ?_
      refine tkL 2 rfl (fun w' hS => by (try dsimp only at hS); go_simp; rfl) hS0 ?_
      try simp only [Act.put, List.setIfInBounds_toArray, List.set_cons_zero, List.set_cons_succ]
      refine tkL 3 rfl (fun w' hS => by (try dsimp only at hS); go_simp; rfl) hS0 ?_
      refine tkL 4 rfl (fun w' hS => by (try dsimp only at hS); go_simp; rfl) hS0 ?_
      try simp only [Act.put, List.setIfInBounds_toArray, List.set_cons_zero, List.set_cons_succ]
      refine wpAnyH_oneL (i := 5) rfl (by kernel_rfl) rfl (fun K hK => ?_)
      go_wp2_with fail
      have hxx := (HS.out.1.ext.drew.setCell (p := ⟨w.heap.size, 0, none⟩) (Nat.le_refl _) (.slice none 0 0)).setCell (p := ⟨w.heap.size, 1, none⟩) (Nat.le_refl _) (.slice none 0 0)
      have hrd := (HS.out.2.2.drew.far (p := ⟨w.heap.size, 0, none⟩) (by dsimp only; omega) (.slice none 0 0)).far (p := ⟨w.heap.size, 1, none⟩) (by dsimp only; omega) (.slice none 0 0)
      have hrs := (HS.out.2.1.drew.set 0 (.slice none 0 0)).set 1 (.slice none 0 0)
      have HXX := Lib.hid hxx
      have HRS := Lib.hid hrs
      have hrd2 := (HS.out.2.2.far (p := ⟨w.heap.size, 0, none⟩) (by dsimp only; omega) (.slice none 0 0)).far (p := ⟨w.heap.size, 1, none⟩) (by dsimp only; omega) (.slice none 0 0)
      refine hK _ _ (by first | (have := hrd2.cell 1; simpa using this) | (have := hrd.cell 1; simpa using this)) ?_
      clear hK K hxx hrd hrs hrd2
      try simp only [Act.put, List.setIfInBounds_toArray, List.set_cons_zero, List.set_cons_succ]
      refine wpAnyH_endL (by kernel_rfl) (fun K hK => ?_)
      go_wp2_with fail
      refine bodyPost_ret (res_cell_tmp rfl rfl HRS.out Tryz.underlying40 rfl (by kernel_rfl)) rfl ?_
      rw [HRR.out]
      exact ⟨none, 0, none, 0, rfl, HXX.out, noCat_read _⟩
    ·have hki : ¬ (k : Int) < (n2 : Int) := by omega
     have hkt : decide ((k : Int) < (n2 : Int)) = false := decide_eq_false hki
     obtain rfl : k = n2 := by omega
     rw [Nat.sub_self] at hst
     have HST := Lib.hid hst
     clear hst
     have hes300 : es.length ≤ 300 := by omega
     rcases hee with rfl | rfl
     ·have HRR := Lib.hid HST.out.fin
      have f0 := HS.out.2.2.cell 0
      have f1 := HS.out.2.2.cell 1
      have lr := HS.out.2.2.lt
      simp at f0 f1
      go_wp2_with fail
      refine (trim_any r _ (by omega)).mono ?_
      rintro en w9 ⟨hx9, tv, rfl, htr⟩
      have HS9 := Lib.hid (HS.out.up hx9)
      clear f0 f1 hx9
      cases hz : zeros r with
      | false =>
       have hne := htr.some hz
       have HR4 := Lib.hid (show R = (noCat, 4) by rw [HRR.out]; unfold endCat; rw [show (lst r).all (· == 0) = false from hz]; rfl)
       have hne2 : (tv.toList == []) = false := by
        rw [toList_lst]
        refine beq_false_of_ne (fun h => hne ?_)
        exact size0_empty (by rw [← length_lst, h]; rfl)
       have hne3 : (!(tv.toList == [])) = true := by rw [hne2]; rfl
       have hne4 : ¬ tv = ⟨#[]⟩ := fun h => hne (by rw [h]; rfl)
       have z1 := HS9.out.2.2.frozen 1
       have f0 := HS9.out.2.2.cell 0
       have f1 := HS9.out.2.2.cell 1
       have lr := HS9.out.2.2.lt
       simp at f0 f1
       have HS4 := Lib.hid (HS9.out.num (setRow_by w9 (w.heap.size + 1) 1 (.int .i64 4)) (HS9.out.2.2.set 1 (.int .i64 4)))
       clear hz htr
       have lr4 := HS4.out.2.2.lt
       go_wp2_with fail
       clear f0 f1 z1
       obtain ⟨W4, hW4⟩ : ∃ W4, W4 = w9.setCell ⟨w.heap.size + 1, 1, none⟩ (.int .i64 4) := ⟨_, rfl⟩
       rw [← hW4] at HS4 lr4 ⊢
       clear hW4
       have z0 := HS4.out.2.1.frozen 0
       have z1 := HS4.out.2.1.frozen 1
       have m0 := HS4.out.2.1.cell 0
       have m1 := HS4.out.2.1.cell 1
       have f0 := HS4.out.2.2.cell 0
       have f1 := HS4.out.2.2.cell 1
       simp at m0 m1 f0 f1
       go_wp2_with fail
       refine wp_region_begin (S := fun W' => W'.cell? ⟨w.heap.size + 1, 1, none⟩ = some (.int .i64 4)) (n := 6) (by kernel_rfl) rfl (by kernel_rfl) rfl ?_
       have hS0 : (fun W' => W'.cell? ⟨w.heap.size + 1, 1, none⟩ = some (.int .i64 4)) (W4).drew := f1
       refine tkL 0 rfl (fun w' hS => by (try dsimp only at hS); go_simp; rfl) hS0 ?_
       refine tkL 1 rfl (fun w' hS => by (try dsimp only at hS); go_simp; rfl) hS0 ?_
       refine tkL 2 rfl (fun w' hS => by (try dsimp only at hS); go_simp; rfl) hS0 ?_
       try simp only [Act.put, List.setIfInBounds_toArray, List.set_cons_zero, List.set_cons_succ]
       refine tkL 3 rfl (fun w' hS => by (try dsimp only at hS); go_simp; rfl) hS0 ?_
       refine tkL 4 rfl (fun w' hS => by (try dsimp only at hS); go_simp; rfl) hS0 ?_
       try simp only [Act.put, List.setIfInBounds_toArray, List.set_cons_zero, List.set_cons_succ]
       refine wpAnyH_oneL (i := 5) rfl (by kernel_rfl) rfl (fun K hK => ?_)
       go_wp2_with fail
       have hxx := (HS4.out.1.ext.drew.setCell (p := ⟨w.heap.size, 0, none⟩) (Nat.le_refl _) (.slice none 0 0)).setCell (p := ⟨w.heap.size, 1, none⟩) (Nat.le_refl _) (.slice none 0 0)
       have hrd := (HS4.out.2.2.drew.far (p := ⟨w.heap.size, 0, none⟩) (by dsimp only; omega) (.slice none 0 0)).far (p := ⟨w.heap.size, 1, none⟩) (by dsimp only; omega) (.slice none 0 0)
       have hrs := (HS4.out.2.1.drew.set 0 (.slice none 0 0)).set 1 (.slice none 0 0)
       have HXX := Lib.hid hxx
       have HRS := Lib.hid hrs
       have hrd2 := (HS4.out.2.2.far (p := ⟨w.heap.size, 0, none⟩) (by dsimp only; omega) (.slice none 0 0)).far (p := ⟨w.heap.size, 1, none⟩) (by dsimp only; omega) (.slice none 0 0)
       refine hK _ _ (by first | (have := hrd2.cell 1; simpa using this) | (have := hrd.cell 1; simpa using this)) ?_
       clear hK K hxx hrd hrs hrd2
       try simp only [Act.put, List.setIfInBounds_toArray, List.set_cons_zero, List.set_cons_succ]
       refine wpAnyH_endL (by kernel_rfl) (fun K hK => ?_)
       go_wp2_with fail
       refine bodyPost_ret (res_cell_tmp rfl rfl HRS.out Tryz.underlying40 rfl (by kernel_rfl)) rfl ?_
       rw [HR4.out]
       exact ⟨none, 0, none, 0, rfl, HXX.out, noCat_read _⟩
      | true =>
       obtain rfl := htr.all hz
       have HR0 := Lib.hid (show R = (if catFault ⟨bl, es⟩ = 0 then (⟨bl, es⟩, 0) else (noCat, catFault ⟨bl, es⟩)) by rw [HRR.out]; unfold endCat; rw [show (lst r).all (· == 0) = true from hz]; rfl)
       have f0 := HS9.out.2.2.cell 0
       have f1 := HS9.out.2.2.cell 1
       have lr := HS9.out.2.2.lt
       simp at f0 f1
       have g0 := HS9.out.1.cat.cell 0
       have g1 := HS9.out.1.cat.cell 1
       simp at g0 g1
       clear hz htr
       go_wp2_with fail
       refine (catCheck_any _ ⟨bl, es⟩ w9 (HS9.out.1.rcat (show bl.length ≤ 1000 by omega) (show es.length ≤ 1000 by omega))).mono ?_
       rintro en w10 ⟨rfl, hx10⟩
       have HS10 := Lib.hid (HS9.out.up hx10)
       clear f0 f1 g0 g1 hx10
       have z0 := HS10.out.2.1.frozen 0
       have z1 := HS10.out.2.1.frozen 1
       have m0 := HS10.out.2.1.cell 0
       have m1 := HS10.out.2.1.cell 1
       have g0 := HS10.out.1.cat.cell 0
       have g1 := HS10.out.1.cat.cell 1
       simp at m0 m1 g0 g1
       have HL3 := Lib.hid (show bl.length ≤ 1000 ∧ es.length ≤ 1000 by omega)
       by_cases hc : catFault ⟨bl, es⟩ = 0
       ·have HRC := Lib.hid (show R = (⟨bl, es⟩, 0) by rw [HR0.out, if_pos hc])
        rw [hc]
        clear hc
        go_wp2_with fail
        have HXX := Lib.hid ((HS10.out.1.ext.setCell (p := ⟨w.heap.size, 0, none⟩) (Nat.le_refl _) (.slice A1 bl.length c1)).setCell (p := ⟨w.heap.size, 1, none⟩) (Nat.le_refl _) (.slice A2 es.length c2))
        have HRS := Lib.hid ((HS10.out.2.1.set 0 (.slice A1 bl.length c1)).set 1 (.slice A2 es.length c2))
        have HCX := Lib.hid ((HS10.out.1.by_ (setRow_by w10 w.heap.size 0 (.slice A1 bl.length c1)) (Nat.le_refl _) (by omega) (by omega)).by_ (setRow_by _ w.heap.size 1 (.slice A2 es.length c2)) (Nat.le_refl _) (by omega) (by omega))
        refine bodyPost_ret (res_cell_tmp rfl rfl HRS.out Tryz.underlying40 rfl (by kernel_rfl)) rfl ?_
        rw [HRC.out]
        exact ⟨A1, c1, A2, c2, rfl, HXX.out, HCX.out.rcat HL3.out.1 HL3.out.2⟩
       ·have HRC := Lib.hid (show R = (noCat, catFault ⟨bl, es⟩) by rw [HR0.out, if_neg hc])
        have hc' : (catFault ⟨bl, es⟩ != 0) = true := by simpa using hc
        clear hc HR0
        generalize catFault ⟨bl, es⟩ = cf at *
        go_wp2_with fail
        have HXX := Lib.hid ((HS10.out.1.ext.setCell (p := ⟨w.heap.size, 0, none⟩) (Nat.le_refl _) (.slice none 0 0)).setCell (p := ⟨w.heap.size, 1, none⟩) (Nat.le_refl _) (.slice none 0 0))
        have HRS := Lib.hid ((HS10.out.2.1.set 0 (.slice none 0 0)).set 1 (.slice none 0 0))
        refine bodyPost_ret (res_cell_tmp rfl rfl HRS.out Tryz.underlying40 rfl (by kernel_rfl)) rfl ?_
        rw [HRC.out]
        exact ⟨none, 0, none, 0, rfl, HXX.out, noCat_read _⟩
     ·have HRR := Lib.hid (show R = (noCat, 5) from HST.out.bad)
      have z0 := HS.out.2.1.frozen 0
      have z1 := HS.out.2.1.frozen 1
      have m0 := HS.out.2.1.cell 0
      have m1 := HS.out.2.1.cell 1
      have f0 := HS.out.2.2.cell 0
      have f1 := HS.out.2.2.cell 1
      simp at m0 m1 f0 f1
      go_wp2_with fail
      refine wp_region_begin (S := fun W' => W'.cell? ⟨w.heap.size + 1, 1, none⟩ = some (.int .i64 5)) (n := 6) (by kernel_rfl) rfl (by kernel_rfl) rfl ?_
      have hS0 : (fun W' => W'.cell? ⟨w.heap.size + 1, 1, none⟩ = some (.int .i64 5)) (wr).drew := f1
      refine tkL 0 rfl (fun w' hS => by (try dsimp only at hS); go_simp; rfl) hS0 ?_
      refine tkL 1 rfl (fun w' hS => by (try dsimp only at hS); go_simp; rfl) hS0 ?_
      refine tkL 2 rfl (fun w' hS => by (try dsimp only at hS); go_simp; rfl) hS0 ?_
      try simp only [Act.put, List.setIfInBounds_toArray, List.set_cons_zero, List.set_cons_succ]
      refine tkL 3 rfl (fun w' hS => by (try dsimp only at hS); go_simp; rfl) hS0 ?_
      refine tkL 4 rfl (fun w' hS => by (try dsimp only at hS); go_simp; rfl) hS0 ?_
      try simp only [Act.put, List.setIfInBounds_toArray, List.set_cons_zero, List.set_cons_succ]
      refine wpAnyH_oneL (i := 5) rfl (by kernel_rfl) rfl (fun K hK => ?_)
      go_wp2_with fail
      have hxx := (HS.out.1.ext.drew.setCell (p := ⟨w.heap.size, 0, none⟩) (Nat.le_refl _) (.slice none 0 0)).setCell (p := ⟨w.heap.size, 1, none⟩) (Nat.le_refl _) (.slice none 0 0)
      have hrd := (HS.out.2.2.drew.far (p := ⟨w.heap.size, 0, none⟩) (by dsimp only; omega) (.slice none 0 0)).far (p := ⟨w.heap.size, 1, none⟩) (by dsimp only; omega) (.slice none 0 0)
      have hrs := (HS.out.2.1.drew.set 0 (.slice none 0 0)).set 1 (.slice none 0 0)
      have HXX := Lib.hid hxx
      have HRS := Lib.hid hrs
      have hrd2 := (HS.out.2.2.far (p := ⟨w.heap.size, 0, none⟩) (by dsimp only; omega) (.slice none 0 0)).far (p := ⟨w.heap.size, 1, none⟩) (by dsimp only; omega) (.slice none 0 0)
      refine hK _ _ (by first | (have := hrd2.cell 1; simpa using this) | (have := hrd.cell 1; simpa using this)) ?_
      clear hK K hxx hrd hrs hrd2
      try simp only [Act.put, List.setIfInBounds_toArray, List.set_cons_zero, List.set_cons_succ]
      refine wpAnyH_endL (by kernel_rfl) (fun K hK => ?_)
      go_wp2_with fail
      refine bodyPost_ret (res_cell_tmp rfl rfl HRS.out Tryz.underlying40 rfl (by kernel_rfl)) rfl ?_
      rw [HRR.out]
      exact ⟨none, 0, none, 0, rfl, HXX.out, noCat_read _⟩
end Go.Proofs.YtjadmfdlggnlgaaGreatDoor
