/-
  The document's catalog out of bytes, and the law: catalog.Decode answers as it does. Conditions: none.
-/
import Derived.Test.YtjadmfdlggnlgaaGreatDoorV17
namespace Go.Proofs.YtjadmfdlggnlgaaGreatDoor
set_option linter.unusedSimpArgs false
set_option linter.unusedVariables false
set_option maxRecDepth 100000
set_option maxHeartbeats 8000000
open Go.RowKit
theorem Blk_.new3 (w : World) (o o' o'' : Obj) (t : TypeId) (cs : Array Value) : Blk_ ((((w.alloc o).alloc o').alloc o'').alloc (.cells cs t)) (w.heap.size + 3) t cs := by
 have := Blk_.new (((w.alloc o).alloc o').alloc o'') t cs
 simpa [World.size_alloc] using this
theorem Blk_.new4 (w : World) (o o' o'' o3 : Obj) (t : TypeId) (cs : Array Value) : Blk_ (((((w.alloc o).alloc o').alloc o'').alloc o3).alloc (.cells cs t)) (w.heap.size + 4) t cs := by
 have := Blk_.new ((((w.alloc o).alloc o').alloc o'').alloc o3) t cs
 simpa [World.size_alloc] using this
def TX (s : ByteArray) (w W : World) (i : Nat) (sh : Bool) (V1 V2 : Value) (bl : List Blk) (es : List Ent) : Prop :=
 CX w W (w.heap.size + 4) (w.heap.size + 5) V1 V2 bl es ∧ Blk_ W w.heap.size 9 #[.string s] ∧ Blk_ W (w.heap.size + 1) 40 #[.slice none 0 0, .slice none 0 0] ∧ Blk_ W (w.heap.size + 2) 3 #[.int .i64 (i : Int)] ∧ Blk_ W (w.heap.size + 3) 4 #[.bool sh]
section
variable {s : ByteArray} {w W W' : World} {i : Nat} {sh : Bool} {V1 V2 V1' V2' : Value} {bl : List Blk} {es : List Ent}
theorem TX.up (h : TX s w W i sh V1 V2 bl es) (k : Ext W W') : TX s w W' i sh V1 V2 bl es := ⟨h.1.up k, h.2.1.ext k, h.2.2.1.ext k, h.2.2.2.1.ext k, h.2.2.2.2.ext k⟩
theorem TX.setI (h : TX s w W i sh V1 V2 bl es) (n : Nat) : TX s w (W.setCell ⟨w.heap.size + 2, 0, none⟩ (.int .i64 (n : Int))) n sh V1 V2 bl es :=
 ⟨h.1.by_ (setRow_by W (w.heap.size + 2) 0 _) (by omega) (by omega) (by omega), h.2.1.far (by dsimp only; omega) _, h.2.2.1.far (by dsimp only; omega) _, h.2.2.2.1.set 0 _, h.2.2.2.2.far (by dsimp only; omega) _⟩
theorem TX.setH (h : TX s w W i sh V1 V2 bl es) (b : Bool) : TX s w (W.setCell ⟨w.heap.size + 3, 0, none⟩ (.bool b)) i b V1 V2 bl es :=
 ⟨h.1.by_ (setRow_by W (w.heap.size + 3) 0 _) (by omega) (by omega) (by omega), h.2.1.far (by dsimp only; omega) _, h.2.2.1.far (by dsimp only; omega) _, h.2.2.2.1.far (by dsimp only; omega) _, h.2.2.2.2.set 0 _⟩
theorem TX.off {g : Nat} (h : TX s w W i sh V1 V2 bl es) (hg : w.heap.size + 5 ≤ g) (h1 : V1.ownBlock ≠ some g) (h2 : V2.ownBlock ≠ some g) (k : Nat) (u : Value) : TX s w (W.setCell ⟨g, k, none⟩ u) i sh V1 V2 bl es :=
 ⟨h.1.off (setRow_by W g k u) (by omega) (by omega) h1 h2, h.2.1.far (by dsimp only; omega) _, h.2.2.1.far (by dsimp only; omega) _, h.2.2.2.1.far (by dsimp only; omega) _, h.2.2.2.2.far (by dsimp only; omega) _⟩
theorem TX.pushB {b : Blk} (h : TX s w W i sh V1 V2 bl es) (hg : W.grownBy W' V1.ownBlock) (ho : W'.ownsRow (w.heap.size + 5) 64 2 V1' (bl.length + 1) (bl.flatMap encBlk ++ [.int .i64 b.first, .int .i64 b.bytes])) (h1 : I64 b.first) (h2 : I64 b.bytes) :
  TX s w (W'.setCell ⟨w.heap.size + 4, 0, none⟩ V1') i sh V1' V2 (bl ++ [b]) es :=
 ⟨h.1.pushB hg ho h1 h2, (h.2.1.grown hg (fun k hk => by have := (h.1.o1.lt k hk).1; omega)).far (by dsimp only; omega) _, (h.2.2.1.grown hg (fun k hk => by have := (h.1.o1.lt k hk).1; omega)).far (by dsimp only; omega) _, (h.2.2.2.1.grown hg (fun k hk => by have := (h.1.o1.lt k hk).1; omega)).far (by dsimp only; omega) _, (h.2.2.2.2.grown hg (fun k hk => by have := (h.1.o1.lt k hk).1; omega)).far (by dsimp only; omega) _⟩
theorem TX.pushE {x : Ent} (h : TX s w W i sh V1 V2 bl es) (hg : W.grownBy W' V2.ownBlock) (ho : W'.ownsRow (w.heap.size + 5) 70 4 V2' (es.length + 1) (es.flatMap encEnt ++ [.string x.name, .int .i64 x.block, .int .i64 x.at_, .int .i64 x.bytes])) (hx : EntOk x) :
  TX s w (W'.setCell ⟨w.heap.size + 4, 1, none⟩ V2') i sh V1 V2' bl (es ++ [x]) :=
 ⟨h.1.pushE hg ho hx, (h.2.1.grown hg (fun k hk => by have := (h.1.o2.lt k hk).1; omega)).far (by dsimp only; omega) _, (h.2.2.1.grown hg (fun k hk => by have := (h.1.o2.lt k hk).1; omega)).far (by dsimp only; omega) _, (h.2.2.2.1.grown hg (fun k hk => by have := (h.1.o2.lt k hk).1; omega)).far (by dsimp only; omega) _, (h.2.2.2.2.grown hg (fun k hk => by have := (h.1.o2.lt k hk).1; omega)).far (by dsimp only; omega) _⟩
theorem next_any (h : TX s w W i sh V1 V2 bl es) (hi : i ≤ s.size) (hs : s.size ≤ 140737488355328) :
  Calls Tryz.prog 83 #[.pointer (some ⟨w.heap.size + 2, 0, none⟩), .pointer (some ⟨w.heap.size, 0, none⟩), .pointer (some ⟨w.heap.size + 3, 0, none⟩)] W fun e w' => e = .returned (.int .i64 (nextV s i)) ∧ TX s w w' (nextI s i) (nextH s i sh) V1 V2 bl es ∧ ∀ g t cs, w.heap.size + 5 ≤ g → Blk_ W g t cs → Blk_ w' g t cs := by
 have f0 := h.2.1.cell 0
 have f2 := h.2.2.2.1.cell 0
 have f3 := h.2.2.2.2.cell 0
 have z2 := h.2.2.2.1.frozen 0
 have z3 := h.2.2.2.2.frozen 0
 simp at f0 f2 f3
 have HH := Lib.hid h
 have hiI : (i : Int) ≤ (s.size : Int) := by omega
 have hsI : (s.size : Int) ≤ 140737488355328 := by omega
 clear h
 by_cases h0 : i < s.size
 ·have e1 : nextI s i = i + 1 := if_pos h0
  have e2 : nextH s i sh = sh := if_pos h0
  have e3 : nextV s i = (s[i].toNat : Int) := by
   have hil : i < (lst s).length := by rw [length_lst]; exact h0
   unfold nextV
   rw [List.getD_eq_getElem?_getD, List.getElem?_eq_getElem hil]
   rfl
  rw [e1, e2, e3]
  have h0I : (i : Int) < (s.size : Int) := by omega
  have HS := Lib.hid (HH.out.setI (i + 1))
  obtain ⟨c, hc⟩ : ∃ c, c = s[i].toNat := ⟨_, rfl⟩
  have hcI : ((s[i].toNat : Nat) : Int) = (c : Int) := by rw [hc]
  have hc2 : c < 256 := by rw [hc]; exact UInt8.toNat_lt _
  have cz1 : (0 : Int) ≤ (c : Int) := by omega
  have cz2 : (c : Int) ≤ 255 := by omega
  clear e1 e2 e3 hc
  go_enter Tryz.func83, Tryz.ntmps83
  go_wp2_with fail
  go_ret
  refine ⟨by first | rfl | (rw [hcI]; rfl) | (simp only [hcI]; rfl) | simp [hcI], ?_, fun g t cs hg hb => hb.far (by dsimp only; omega) _⟩
  have := HS.out
  rw [show (((i + 1 : Nat) : Int)) = (i : Int) + 1 by omega] at this
  exact this
 ·have e1 : nextI s i = i := if_neg h0
  have e2 : nextH s i sh = true := if_neg h0
  have e3 : nextV s i = 0 := by
   unfold nextV
   rw [List.getD_eq_getElem?_getD, List.getElem?_eq_none (by rw [length_lst]; omega)]
   rfl
  rw [e1, e2, e3]
  have h0I : (s.size : Int) ≤ (i : Int) := by omega
  have HS := Lib.hid (HH.out.setH true)
  clear e1 e2 e3
  go_enter Tryz.func83, Tryz.ntmps83
  go_wp2_with fail
  go_ret
  exact ⟨rfl, HS.out, fun g t cs hg hb => hb.far (by dsimp only; omega) _⟩
end
theorem catalogOf_any (s : ByteArray) (w : World) (hs : s.size ≤ 140737488355328) :
  Calls Tryz.prog 54 #[.string s] w fun e w' => ∃ A1 c1 A2 c2, e = .returned (.tuple #[.agg #[.slice A1 (decCatS s).1.blocks.length c1, .slice A2 (decCatS s).1.entries.length c2], .int .i64 (decCatS s).2]) ∧ Ext w w' ∧ RCat w' [.slice A1 (decCatS s).1.blocks.length c1, .slice A2 (decCatS s).1.entries.length c2] (decCatS s).1 := by
 obtain ⟨R, hR⟩ : ∃ R, R = decCatS s := ⟨_, rfl⟩
 obtain ⟨j0, hi0, hz0, hz1, hz2⟩ := info_parts info_blk
 have HIB := Lib.hid (And.intro hi0 (And.intro hz0 (And.intro hz1 hz2)))
 clear hi0 hz0 hz1 hz2
 obtain ⟨j1, hi0, hz0, hz1, hz2⟩ := info_parts info_ent
 have HIE := Lib.hid (And.intro hi0 (And.intro hz0 (And.intro hz1 hz2)))
 clear hi0 hz0 hz1 hz2
 have hst := BSt.start2 s
 rw [← hR] at hst ⊢
 clear hR
 go_enter Tryz.func54, Tryz.ntmps54
 go_wp2_with fail
 refine calls_abs (fun W => TX s w W 0 false (.slice none 0 0) (.slice none 0 0) [] []) ⟨⟨((((((Ext.refl _).alloc _).alloc _).alloc _).alloc _).alloc _), by omega, by omega, Blk_.new4 _ _ _ _ _ _ _, World.ownsRow_nil _ _ _ _, World.ownsRow_nil _ _ _ _, (fun _ h => by cases h), (fun _ h => by cases h)⟩, ((((Blk_.new _ _ _).alloc _).alloc _).alloc _).alloc _, (((Blk_.new1 _ _ _ _).alloc _).alloc _).alloc _, ((Blk_.new2 _ _ _ _ _).alloc _).alloc _, (Blk_.new3 _ _ _ _ _ _).alloc _⟩ ?_
 rintro W hS
 have HS0 := Lib.hid hS
 clear hS
 refine (next_any HS0.out (Nat.zero_le s.size) hs).mono ?_
 rintro en u7 ⟨rfl, ht, hkeep⟩
 obtain ⟨v7, hv7⟩ : ∃ v, v = nextV s 0 := ⟨_, rfl⟩
 have hvr7 := nextV_range s 0
 obtain ⟨i7, hi7⟩ : ∃ v, v = nextI s 0 := ⟨_, rfl⟩
 have hle7 := nextI_le (Nat.zero_le s.size)
 rw [← hv7] at hvr7 ⊢
 rw [← hi7] at ht hle7
 obtain ⟨va7, vb7⟩ := hvr7
 have T7 := Lib.hid ht
 have V7 := Lib.hid hv7
 have I7 := Lib.hid hi7
 clear ht hkeep hv7 hi7
 obtain ⟨n, hn⟩ := Int.eq_ofNat_of_zero_le va7
 subst hn
 rw [← V7.out, ← I7.out, Int.toNat_natCast] at hst
 have hn255 : n ≤ 255 := by omega
 obtain ⟨sh7, hsh7⟩ : ∃ b, b = nextH s 0 false := ⟨_, rfl⟩
 rw [← hsh7] at T7 hst
 clear hsh7 va7 V7 I7 HS0
 go_wp2_with fail
 go_loopw [8, 10] (fun pv kv wr => ∃ (k : Nat) (p : Int) (i : Nat) (sh : Bool) (A1 : Option Addr) (c1 : Nat) (bl : List Blk), pv = .int .i64 p ∧ kv = .int .i64 k ∧ k ≤ n ∧ bl.length = k ∧ 8 ≤ p ∧ p ≤ 8 + 2800 * (k : Int) ∧ i ≤ s.size ∧ TX s w wr i sh (.slice A1 bl.length c1) (.slice none 0 0) bl [] ∧ BSt R (n - k) p bl (rr s i) (eO sh)) (fun _ kv _ => n - (intOf kv).toNat)
 case atStart => exact ⟨0, 8, i7, sh7, none, 0, [], rfl, rfl, Nat.zero_le _, rfl, by omega, by omega, hle7, T7.out, hst⟩
 case round =>
  clear T7 hst hle7
  obtain ⟨k, p, i, sh, A1, c1, bl, rfl, rfl, hk, hbl0, hp1, hp2, hi, hS, hst⟩ := hrel
  have HBL0 := Lib.hid hbl0
  have hbl1 : bl.length ≤ k := by omega
  have HS := Lib.hid hS
  clear hbl0 hS
  by_cases hkn : k < n
  ·cases sh with
   | false =>
    have HI0 := Lib.hid hi
    have hki : (k : Int) < (n : Int) := by omega
    have hkt : decide ((k : Int) < (n : Int)) = true := decide_eq_true hki
    have hj : n - k = (n - (k + 1)) + 1 := by omega
    rw [hj] at hst
    have HST := Lib.hid (BSt.two hst)
    have HKN := Lib.hid hkn
    clear hst hj hi
    have f0 := HS.out.2.1.cell 0
    have f2 := HS.out.2.2.2.1.cell 0
    have f3 := HS.out.2.2.2.2.cell 0
    have fz2 := HS.out.2.2.2.1.frozen 0
    have fz3 := HS.out.2.2.2.2.frozen 0
    have fg0 := HS.out.1.cat.cell 0
    have fg1 := HS.out.1.cat.cell 1
    have fl := HS.out.1.cat.lt
    simp at f0 f2 f3 fg0 fg1
    go_wp2_with fail
    refine (next_any HS.out HI0.out hs).mono ?_
    rintro en u1 ⟨rfl, ht, hkeep⟩
    obtain ⟨v1, hv1⟩ : ∃ v, v = nextV s i := ⟨_, rfl⟩
    have hvr1 := nextV_range s i
    obtain ⟨i1, hi1⟩ : ∃ v, v = nextI s i := ⟨_, rfl⟩
    have hle1 := nextI_le HI0.out
    rw [← hv1] at hvr1 ⊢
    rw [← hi1] at ht hle1
    obtain ⟨va1, vb1⟩ := hvr1
    have T1 := Lib.hid ht
    have V1 := Lib.hid hv1
    have I1 := Lib.hid hi1
    clear ht hkeep hv1 hi1
    clear f0 f2 f3 fz2 fz3 fg0 fg1 fl
    have f0 := T1.out.2.1.cell 0
    have f2 := T1.out.2.2.2.1.cell 0
    have f3 := T1.out.2.2.2.2.cell 0
    have fz2 := T1.out.2.2.2.1.frozen 0
    have fz3 := T1.out.2.2.2.2.frozen 0
    have fg0 := T1.out.1.cat.cell 0
    have fg1 := T1.out.1.cat.cell 1
    have fl := T1.out.1.cat.lt
    simp at f0 f2 f3 fg0 fg1
    go_wp2_with fail
    refine (next_any T1.out hle1 hs).mono ?_
    rintro en u2 ⟨rfl, ht, hkeep⟩
    obtain ⟨v2, hv2⟩ : ∃ v, v = nextV s i1 := ⟨_, rfl⟩
    have hvr2 := nextV_range s i1
    obtain ⟨i2, hi2⟩ : ∃ v, v = nextI s i1 := ⟨_, rfl⟩
    have hle2 := nextI_le hle1
    rw [← hv2] at hvr2 ⊢
    rw [← hi2] at ht hle2
    obtain ⟨va2, vb2⟩ := hvr2
    have T2 := Lib.hid ht
    have V2 := Lib.hid hv2
    have I2 := Lib.hid hi2
    clear ht hkeep hv2 hi2
    clear f0 f2 f3 fz2 fz3 fg0 fg1 fl
    have HST2 := Lib.hid HST.out
    rw [← I1.out, ← V1.out, ← V2.out, ← I2.out] at HST2
    obtain ⟨sh2, hsh2⟩ : ∃ b, b = nextH s i1 (nextH s i false) := ⟨_, rfl⟩
    rw [← hsh2] at T2 HST2
    clear hsh2 HS T1 HST HI0
    obtain ⟨m, hm⟩ : ∃ m, m = 256 * v1 + v2 := ⟨_, rfl⟩
    have hm0 : 0 ≤ m ∧ m ≤ 65535 := by omega
    have hmm : 256 * v1 + v2 = m := hm.symm
    rw [hmm] at HST2
    clear hm
    obtain ⟨hm1, hm2⟩ := hm0
    have HBL := Lib.hid (show bl.length ≤ 255 by omega)
    have hbl : (bl.length : Int) ≤ 255 := by omega
    obtain ⟨q, hq⟩ : ∃ q, q = p + (m + 23) / 24 := ⟨_, rfl⟩
    have hq1 : p + (m + 23) / 24 = q := hq.symm
    have hqb : 8 ≤ q ∧ q ≤ 8 + 2800 * ((k : Int) + 1) := by omega
    have HQ := Lib.hid (show p + secs m = q from hq.symm)
    have HPM := Lib.hid (show I64 p ∧ I64 m by constructor <;> (unfold I64; omega))
    clear hq
    have hp8 : p ≤ 1000000 := by omega
    have f0 := T2.out.2.1.cell 0
    have f2 := T2.out.2.2.2.1.cell 0
    have f3 := T2.out.2.2.2.2.cell 0
    have fz2 := T2.out.2.2.2.1.frozen 0
    have fz3 := T2.out.2.2.2.2.frozen 0
    have fg0 := T2.out.1.cat.cell 0
    have fg1 := T2.out.1.cat.cell 1
    have fl := T2.out.1.cat.lt
    simp at f0 f2 f3 fg0 fg1
    go_wp2_with (at_builtin; refine wpList_append_at _ rfl (.tmp 37) (.tmp 41) 37 rfl (w.heap.size + 5) 64 j0 (.agg #[.int .i64 0, .int .i64 0]) 2 16 Tryz.underlying37 HIB.out.1 HIB.out.2.1 HIB.out.2.2.1 HIB.out.2.2.2 rfl (by decide) _ bl.length _ rfl (own_ext T2.out.1.o1 ((Ext.refl _).alloc _)) ⟨u2.heap.size, 0, none⟩ 1 1 [.int .i64 p, .int .i64 m] rfl rfl ?d1 ?d2 ?d3 ?d4 ?d5 ?_)
    case d1 =>
     intro j u hu
     rw [Addr.add_lit, Nat.zero_add, (Blk_.new u2 64 _).cell]
     simpa using hu
    case d2 =>
     intro u hu
     simp only [List.mem_cons, List.not_mem_nil, or_false] at hu
     rcases hu with rfl | rfl <;> rfl
    case d3 => have := HBL.out; unfold maxLen; omega
    case d4 => have := HBL.out; omega
    case d5 => rw [World.size_alloc]; omega
    intro A7 c7 w7 own7 hg7 _
    have HC7 := Lib.hid ((T2.out.1.cat.alloc _).grown hg7 (fun k hk => by have := (T2.out.1.o1.lt k hk).1; omega))
    have HS8 := Lib.hid ((T2.out.up ((Ext.refl _).alloc _)).pushB (b := ⟨p, m⟩) hg7 own7 HPM.out.1 HPM.out.2)
    have q0 := HC7.out.cell 0
    have q1 := HC7.out.cell 1
    have z0 := HC7.out.frozen 0
    simp at q0 q1
    obtain ⟨bl2, hbl2⟩ : ∃ x, x = bl ++ [(⟨p, m⟩ : Blk)] := ⟨_, rfl⟩
    have hl7 : bl.length + 1 = bl2.length := by rw [hbl2, List.length_append]; rfl
    rw [← hbl2] at HS8 HST2
    rw [hl7] at HS8 ⊢
    have HBL2 := Lib.hid (show bl2.length = k + 1 by rw [← hl7, HBL0.out])
    clear own7 hg7 HC7 hl7 hbl2 T2
    clear f0 f2 f3 fz2 fz3 fg0 fg1 fl
    go_wp2_with (first | (go_at_call 26; refine (sectorsOf_any m _ hm1 (by omega)).mono ?_; rintro en w9 ⟨rfl, rfl⟩))
    go_roundw
    case rel => exact ⟨k + 1, q, i2, sh2, A7, c7, bl2, by first | rfl | go_num, by first | rfl | go_num, by have := HKN.out; omega, HBL2.out, hqb.1, by have := hqb.2; omega, hle2, HS8.out, by rw [← HQ.out]; exact HST2.out⟩
    case measure => have := HKN.out; (simp [intOf]; try omega)
   | true =>
    have hki : (k : Int) < (n : Int) := by omega
    have hkt : decide ((k : Int) < (n : Int)) = true := decide_eq_true hki
    have hbad : R = (noCat, 5) := by rcases hst with ⟨h, _⟩ | ⟨_, h⟩; exact absurd h (by decide); exact h
    have HPRE := Lib.hid (show BSt R 0 p bl (rr s i) (eO true) ∨ (true = true ∧ R = (noCat, 5)) from .inr ⟨rfl, hbad⟩)
    clear hst hbad
    have HMID := Lib.hid (BSt.mid2 HPRE.out)
    have f0 := HS.out.2.1.cell 0
    have f2 := HS.out.2.2.2.1.cell 0
    have f3 := HS.out.2.2.2.2.cell 0
    have fz2 := HS.out.2.2.2.1.frozen 0
    have fz3 := HS.out.2.2.2.2.frozen 0
    have fg0 := HS.out.1.cat.cell 0
    have fg1 := HS.out.1.cat.cell 1
    have fl := HS.out.1.cat.lt
    simp at f0 f2 f3 fg0 fg1
    go_wp2_with fail
    refine (next_any HS.out hi hs).mono ?_
    rintro en u9 ⟨rfl, ht, hkeep⟩
    obtain ⟨v9, hv9⟩ : ∃ v, v = nextV s i := ⟨_, rfl⟩
    have hvr9 := nextV_range s i
    obtain ⟨i9, hi9⟩ : ∃ v, v = nextI s i := ⟨_, rfl⟩
    have hle9 := nextI_le hi
    rw [← hv9] at hvr9 ⊢
    rw [← hi9] at ht hle9
    obtain ⟨va9, vb9⟩ := hvr9
    have T9 := Lib.hid ht
    have V9 := Lib.hid hv9
    have I9 := Lib.hid hi9
    clear ht hkeep hv9 hi9
    clear f0 f2 f3 fz2 fz3 fg0 fg1 fl
    obtain ⟨n2, hn2⟩ := Int.eq_ofNat_of_zero_le va9
    subst hn2
    have hmid := HMID.out
    rw [← V9.out, ← I9.out, Int.toNat_natCast] at hmid
    have hn255 : n2 ≤ 255 := by omega
    have hbl300 : bl.length ≤ 300 := by omega
    obtain ⟨sh9, hsh9⟩ : ∃ b, b = nextH s i true := ⟨_, rfl⟩
    rw [← hsh9] at T9 hmid
    clear hsh9 HMID HPRE va9 V9 I9 HS
    go_wp2_with fail
    go_loopw [12] (fun kv wr => ∃ (k : Nat) (i : Nat) (sh : Bool) (A2 : Option Addr) (c2 : Nat) (es : List Ent), kv = .int .i64 k ∧ k ≤ n2 ∧ es.length = k ∧ i ≤ s.size ∧ TX s w wr i sh (.slice A1 bl.length c1) (.slice A2 es.length c2) bl es ∧ ESt R (n2 - k) bl es (rr s i) (eO sh)) (fun kv _ => n2 - (intOf kv).toNat)
    case atStart => exact ⟨0, i9, sh9, none, 0, [], rfl, Nat.zero_le _, rfl, hle9, T9.out, hmid⟩
    case round =>
     clear T9 hmid hle9
     obtain ⟨k, i, sh, A2, c2, es, rfl, hk, hel0, hi, hS, hst⟩ := hrel
     have HEL0 := Lib.hid hel0
     have hel1 : es.length ≤ k := by omega
     have HS := Lib.hid hS
     clear hel0 hS
     by_cases hkn : k < n2
     ·cases sh with
      | false =>
       have HI0 := Lib.hid hi
       have hki : (k : Int) < (n2 : Int) := by omega
       have hkt : decide ((k : Int) < (n2 : Int)) = true := decide_eq_true hki
       have hj : n2 - k = (n2 - (k + 1)) + 1 := by omega
       rw [hj] at hst
       have HST := Lib.hid hst
       have HKN := Lib.hid hkn
       have hsI : (s.size : Int) ≤ 140737488355328 := by omega
       clear hst hj hi
       have HOW := Lib.hid (show (∀ k, (Value.slice A1 bl.length c1).ownBlock = some k → k < wr.heap.size) ∧ (∀ k, (Value.slice A2 es.length c2).ownBlock = some k → k < wr.heap.size) from ⟨fun k hk => (HS.out.1.o1.lt k hk).2, fun k hk => (HS.out.1.o2.lt k hk).2⟩)
       have hn1 : (Value.slice A1 bl.length c1).ownBlock ≠ some wr.heap.size := fun h => by have := HOW.out.1 _ h; omega
       have hn2 : (Value.slice A2 es.length c2).ownBlock ≠ some wr.heap.size := fun h => by have := HOW.out.2 _ h; omega
       have HNN := Lib.hid (And.intro hn1 hn2)
       clear hn1 hn2
       have lg : w.heap.size + 5 ≤ wr.heap.size := by have := HS.out.1.cat.lt; omega
       have f0 := HS.out.2.1.cell 0
       have f2 := HS.out.2.2.2.1.cell 0
       have f3 := HS.out.2.2.2.2.cell 0
       have fz2 := HS.out.2.2.2.1.frozen 0
       have fz3 := HS.out.2.2.2.2.frozen 0
       have fg0 := HS.out.1.cat.cell 0
       have fg1 := HS.out.1.cat.cell 1
       have fl := HS.out.1.cat.lt
       simp at f0 f2 f3 fg0 fg1
       go_wp2_with fail
       clear f0 f2 f3 fz2 fz3 fg0 fg1 fl
       refine calls_abs (fun W => Ext wr W ∧ Blk_ W wr.heap.size 70 #[.string .empty, .int .i64 0, .int .i64 0, .int .i64 0]) ⟨(Ext.refl _).alloc _, Blk_.new _ _ _⟩ ?_
       rintro W2 ⟨hx, hb⟩
       have HS2 := Lib.hid (HS.out.up hx)
       have HB := Lib.hid hb
       clear hx hb HS
       refine (next_any HS2.out HI0.out hs).mono ?_
       rintro en u1 ⟨rfl, ht, hkeep⟩
       obtain ⟨v1, hv1⟩ : ∃ v, v = nextV s i := ⟨_, rfl⟩
       have hvr1 := nextV_range s i
       obtain ⟨i1, hi1⟩ : ∃ v, v = nextI s i := ⟨_, rfl⟩
       have hle1 := nextI_le HI0.out
       rw [← hv1] at hvr1 ⊢
       rw [← hi1] at ht hle1
       obtain ⟨va1, vb1⟩ := hvr1
       have T1 := Lib.hid ht
       have V1 := Lib.hid hv1
       have I1 := Lib.hid hi1
       have HBn := Lib.hid (hkeep _ _ _ (by omega) HB.out)
       clear HB
       have HB := HBn
       clear HBn
       clear ht hkeep hv1 hi1
       obtain ⟨m, hm⟩ := Int.eq_ofNat_of_zero_le va1
       subst hm
       have hm255 : (m : Int) ≤ 255 := vb1
       clear va1 HS2
       have hi1I : (i1 : Int) ≤ (s.size : Int) := by omega
       obtain ⟨i2, hi2⟩ : ∃ v, v = i1 + m := ⟨_, rfl⟩
       have y12 : (i1 : Int) + (m : Int) = (i2 : Int) := by omega
       by_cases hov : s.size < i2
       ·have hovI : (s.size : Int) < (i2 : Int) := by omega
        have HRR := Lib.hid (show R = (noCat, 5) from HST.out.over HI0.out V1.out.symm (by rw [← I1.out, ← hi2]; exact hov))
        have f0 := T1.out.2.1.cell 0
        have f2 := T1.out.2.2.2.1.cell 0
        have f3 := T1.out.2.2.2.2.cell 0
        have fz2 := T1.out.2.2.2.1.frozen 0
        have fz3 := T1.out.2.2.2.2.frozen 0
        have fg0 := T1.out.1.cat.cell 0
        have fg1 := T1.out.1.cat.cell 1
        have fl := T1.out.1.cat.lt
        simp at f0 f2 f3 fg0 fg1
        have m0 := T1.out.2.2.1.cell 0
        have m1 := T1.out.2.2.1.cell 1
        have z0 := T1.out.2.2.1.frozen 0
        have z1 := T1.out.2.2.1.frozen 1
        simp at m0 m1
        have TH := Lib.hid (T1.out.setH true)
        clear hi2 hov
        go_wp2_with fail
        have HXX := Lib.hid ((TH.out.1.ext.setCell (p := ⟨w.heap.size + 1, 0, none⟩) (by dsimp only; omega) (.slice none 0 0)).setCell (p := ⟨w.heap.size + 1, 1, none⟩) (by dsimp only; omega) (.slice none 0 0))
        have HRS := Lib.hid ((TH.out.2.2.1.set 0 (.slice none 0 0)).set 1 (.slice none 0 0))
        refine bodyPost_ret (res_cell_tmp rfl rfl HRS.out Tryz.underlying40 rfl (by kernel_rfl)) rfl ?_
        rw [HRR.out]
        exact ⟨none, 0, none, 0, rfl, HXX.out, noCat_read _⟩
       ·have hovI : (i2 : Int) ≤ (s.size : Int) := by omega
        have hov0 : (0 : Int) ≤ (i1 : Int) := by omega
        have hov1 : (i1 : Int) ≤ (i2 : Int) := by omega
        have hle2 : i2 ≤ s.size := by omega
        obtain ⟨nm, hnm⟩ : ∃ q, q = s.extract i1 i2 := ⟨_, rfl⟩
        have HNM := Lib.hid hnm
        have HNS := Lib.hid (show nm.size ≤ 140737488355328 by rw [hnm, ByteArray.size_extract]; omega)
        have HI2 := Lib.hid hi2
        clear hnm hi2 hov
        have f0 := T1.out.2.1.cell 0
        have f2 := T1.out.2.2.2.1.cell 0
        have f3 := T1.out.2.2.2.2.cell 0
        have fz2 := T1.out.2.2.2.1.frozen 0
        have fz3 := T1.out.2.2.2.2.frozen 0
        have fg0 := T1.out.1.cat.cell 0
        have fg1 := T1.out.1.cat.cell 1
        have fl := T1.out.1.cat.lt
        simp at f0 f2 f3 fg0 fg1
        have b0 := HB.out.cell 0
        have by0 := HB.out.frozen 0
        have b1 := HB.out.cell 1
        have by1 := HB.out.frozen 1
        have b2 := HB.out.cell 2
        have by2 := HB.out.frozen 2
        have b3 := HB.out.cell 3
        have by3 := HB.out.frozen 3
        simp at b0 b1 b2 b3
        have bl := HB.out.lt
        have T2 := Lib.hid ((T1.out.off lg HNN.out.1 HNN.out.2 0 (.string nm)).setI i2)
        have HB2 := Lib.hid ((HB.out.set 0 (.string nm)).far (p := ⟨w.heap.size + 2, 0, none⟩) (by dsimp only; omega) (.int .i64 (i2 : Int)))
        clear HB T1
        go_wp2_with fail
        clear f0 f2 f3 fz2 fz3 fg0 fg1 fl
        clear b0 by0 b1 by1 b2 by2 b3 by3 bl
        rw [← HNM.out]
        refine (next_any T2.out hle2 hs).mono ?_
        rintro en u3 ⟨rfl, ht, hkeep⟩
        obtain ⟨v3, hv3⟩ : ∃ v, v = nextV s i2 := ⟨_, rfl⟩
        have hvr3 := nextV_range s i2
        obtain ⟨i3, hi3⟩ : ∃ v, v = nextI s i2 := ⟨_, rfl⟩
        have hle3 := nextI_le hle2
        rw [← hv3] at hvr3 ⊢
        rw [← hi3] at ht hle3
        obtain ⟨va3, vb3⟩ := hvr3
        have T3 := Lib.hid ht
        have V3 := Lib.hid hv3
        have I3 := Lib.hid hi3
        have HB2n := Lib.hid (hkeep _ _ _ (by omega) HB2.out)
        clear HB2
        have HB2 := HB2n
        clear HB2n
        clear ht hkeep hv3 hi3
        clear T2
        have b0 := HB2.out.cell 0
        have by0 := HB2.out.frozen 0
        have b1 := HB2.out.cell 1
        have by1 := HB2.out.frozen 1
        have b2 := HB2.out.cell 2
        have by2 := HB2.out.frozen 2
        have b3 := HB2.out.cell 3
        have by3 := HB2.out.frozen 3
        simp at b0 b1 b2 b3
        have bl := HB2.out.lt
        have T3 := T3
        have T3s := Lib.hid (T3.out.off lg HNN.out.1 HNN.out.2 1 (.int .i64 v3))
        have HB3 := Lib.hid (HB2.out.set 1 (.int .i64 v3))
        clear T3 HB2
        go_wp2_with fail
        clear b0 by0 b1 by1 b2 by2 b3 by3 bl
        refine (next_any T3s.out hle3 hs).mono ?_
        rintro en u4 ⟨rfl, ht, hkeep⟩
        obtain ⟨v4, hv4⟩ : ∃ v, v = nextV s i3 := ⟨_, rfl⟩
        have hvr4 := nextV_range s i3
        obtain ⟨i4, hi4⟩ : ∃ v, v = nextI s i3 := ⟨_, rfl⟩
        have hle4 := nextI_le hle3
        rw [← hv4] at hvr4 ⊢
        rw [← hi4] at ht hle4
        obtain ⟨va4, vb4⟩ := hvr4
        have T4 := Lib.hid ht
        have V4 := Lib.hid hv4
        have I4 := Lib.hid hi4
        have HB3n := Lib.hid (hkeep _ _ _ (by omega) HB3.out)
        clear HB3
        have HB3 := HB3n
        clear HB3n
        clear ht hkeep hv4 hi4
        clear T3s
        have b0 := HB3.out.cell 0
        have by0 := HB3.out.frozen 0
        have b1 := HB3.out.cell 1
        have by1 := HB3.out.frozen 1
        have b2 := HB3.out.cell 2
        have by2 := HB3.out.frozen 2
        have b3 := HB3.out.cell 3
        have by3 := HB3.out.frozen 3
        simp at b0 b1 b2 b3
        have bl := HB3.out.lt
        have T4s := Lib.hid (T4.out.off lg HNN.out.1 HNN.out.2 2 (.int .i64 (256 * v4)))
        have HB4 := Lib.hid (HB3.out.set 2 (.int .i64 (256 * v4)))
        clear T4 HB3
        go_wp2_with fail
        clear b0 by0 b1 by1 b2 by2 b3 by3 bl
        refine wp_abs (fun W => TX s w W i4 (nextH s i3 (nextH s i2 (nextH s i false))) (Value.slice A1 bl.length c1) (Value.slice A2 es.length c2) bl es ∧ Blk_ W wr.heap.size 70 #[.string nm, .int .i64 v3, .int .i64 (256 * v4), .int .i64 0]) ⟨T4s.out, HB4.out⟩ ?_
        rintro W4 ⟨hT4, hB4⟩
        clear T4s HB4
        have T4d := Lib.hid (hT4.up (Ext.refl _).drew)
        have HB4 := Lib.hid (hB4.drew)
        have b2 := hB4.cell 2
        simp at b2
        refine wp_region_begin (S := fun W' => W'.cell? ⟨wr.heap.size, 2, none⟩ = some (.int .i64 (256 * v4))) (n := 6) (by kernel_rfl) rfl (by kernel_rfl) rfl ?_
        have hS0 : (fun W' => W'.cell? ⟨wr.heap.size, 2, none⟩ = some (.int .i64 (256 * v4))) W4.drew := b2
        refine tkL 0 rfl (fun w' hS => by (try dsimp only at hS); go_simp; rfl) hS0 ?_
        refine tkL 1 rfl (fun w' hS => by (try dsimp only at hS); go_simp; rfl) hS0 ?_
        refine tkL 2 rfl (fun w' hS => by (try dsimp only at hS); go_simp; rfl) hS0 ?_
        try simp only [Act.put, List.setIfInBounds_toArray, List.set_cons_zero, List.set_cons_succ]
        refine wpAnyH_oneL (i := 3) rfl (by kernel_rfl) rfl (fun K hK => ?_)
        go_wp2_with fail
        refine (next_any T4d.out hle4 hs).mono ?_
        rintro en u5 ⟨rfl, ht, hkeep⟩
        obtain ⟨v5, hv5⟩ : ∃ v, v = nextV s i4 := ⟨_, rfl⟩
        have hvr5 := nextV_range s i4
        obtain ⟨i5, hi5⟩ : ∃ v, v = nextI s i4 := ⟨_, rfl⟩
        have hle5 := nextI_le hle4
        rw [← hv5] at hvr5 ⊢
        rw [← hi5] at ht hle5
        obtain ⟨va5, vb5⟩ := hvr5
        have T5 := Lib.hid ht
        have V5 := Lib.hid hv5
        have I5 := Lib.hid hi5
        have HB4n := Lib.hid (hkeep _ _ _ (by omega) HB4.out)
        clear HB4
        have HB4 := HB4n
        clear HB4n
        clear ht hkeep hv5 hi5
        have b2' := HB4.out.cell 2
        simp at b2'
        have hS1 : (fun W' => W'.cell? ⟨wr.heap.size, 2, none⟩ = some (.int .i64 (256 * v4))) u5 := b2'
        refine hK _ _ hS1 ?_
        clear hK K T4d hT4 hB4 b2 hS0
        refine tkL 4 rfl (fun w' hS => by (try dsimp only at hS); go_simp; rfl) hS1 ?_
        refine tkL 5 rfl (fun w' hS => by (try dsimp only at hS); go_simp; rfl) hS1 ?_
        try simp only [Act.put, List.setIfInBounds_toArray, List.set_cons_zero, List.set_cons_succ]
        refine wpAnyH_endL (by kernel_rfl) (fun K hK => ?_)
        clear b2' hS1
        have b0 := HB4.out.cell 0
        have by0 := HB4.out.frozen 0
        have b1 := HB4.out.cell 1
        have by1 := HB4.out.frozen 1
        have b2 := HB4.out.cell 2
        have by2 := HB4.out.frozen 2
        have b3 := HB4.out.cell 3
        have by3 := HB4.out.frozen 3
        simp at b0 b1 b2 b3
        have bl := HB4.out.lt
        obtain ⟨a2, ha2⟩ : ∃ v, v = 256 * v4 + v5 := ⟨_, rfl⟩
        have ha2' : 256 * v4 + v5 = a2 := ha2.symm
        have ha2r : 0 ≤ a2 ∧ a2 ≤ 65535 := by omega
        have HA2 := Lib.hid ha2
        clear ha2
        have T5s := Lib.hid (T5.out.off lg HNN.out.1 HNN.out.2 2 (.int .i64 a2))
        have HB5 := Lib.hid (HB4.out.set 2 (.int .i64 a2))
        clear T5 HB4
        go_wp2_with fail
        clear b0 by0 b1 by1 b2 by2 b3 by3 bl
        refine (next_any T5s.out hle5 hs).mono ?_
        rintro en u6 ⟨rfl, ht, hkeep⟩
        obtain ⟨v6, hv6⟩ : ∃ v, v = nextV s i5 := ⟨_, rfl⟩
        have hvr6 := nextV_range s i5
        obtain ⟨i6, hi6⟩ : ∃ v, v = nextI s i5 := ⟨_, rfl⟩
        have hle6 := nextI_le hle5
        rw [← hv6] at hvr6 ⊢
        rw [← hi6] at ht hle6
        obtain ⟨va6, vb6⟩ := hvr6
        have T6 := Lib.hid ht
        have V6 := Lib.hid hv6
        have I6 := Lib.hid hi6
        have HB5n := Lib.hid (hkeep _ _ _ (by omega) HB5.out)
        clear HB5
        have HB5 := HB5n
        clear HB5n
        clear ht hkeep hv6 hi6
        clear T5s
        have b0 := HB5.out.cell 0
        have by0 := HB5.out.frozen 0
        have b1 := HB5.out.cell 1
        have by1 := HB5.out.frozen 1
        have b2 := HB5.out.cell 2
        have by2 := HB5.out.frozen 2
        have b3 := HB5.out.cell 3
        have by3 := HB5.out.frozen 3
        simp at b0 b1 b2 b3
        have bl := HB5.out.lt
        have f0 := T6.out.2.1.cell 0
        have f2 := T6.out.2.2.2.1.cell 0
        have f3 := T6.out.2.2.2.2.cell 0
        have fz2 := T6.out.2.2.2.1.frozen 0
        have fz3 := T6.out.2.2.2.2.frozen 0
        have fg0 := T6.out.1.cat.cell 0
        have fg1 := T6.out.1.cat.cell 1
        have fl := T6.out.1.cat.lt
        simp at f0 f2 f3 fg0 fg1
        have T6s := Lib.hid (T6.out.off lg HNN.out.1 HNN.out.2 3 (.int .i64 v6))
        have HST6 := Lib.hid (HST.out.entry (i1 := i1) (i2 := i2) (i3 := i3) (i4 := i4) (i5 := i5) (i6 := i6) HI0.out V1.out.symm (by rw [← HI2.out]; exact hle2) I1.out HI2.out I3.out I4.out I5.out I6.out rfl)
        rw [← HNM.out, ← V3.out, ← V4.out, ← V5.out, ← V6.out, ← HA2.out] at HST6
        have HEL := Lib.hid (show es.length ≤ 255 by omega)
        have hel : (es.length : Int) ≤ 255 := by omega
        have HOK := Lib.hid (show EntOk ⟨nm, v3, a2, v6⟩ from ⟨HNS.out, by show I64 v3; unfold I64; omega, by show I64 a2; unfold I64; omega, by show I64 v6; unfold I64; omega⟩)
        clear HB5 T6
        go_wp2_with (at_builtin; refine wpList_append_at _ rfl (.tmp 95) (.tmp 97) 38 rfl (w.heap.size + 5) 70 j1 (.agg #[.string .empty, .int .i64 0, .int .i64 0, .int .i64 0]) 4 40 Tryz.underlying38 HIE.out.1 HIE.out.2.1 HIE.out.2.2.1 HIE.out.2.2.2 rfl (by decide) _ es.length _ rfl (own_ext T6s.out.1.o2 ((Ext.refl _).alloc _)) ⟨u6.heap.size, 0, none⟩ 1 1 [.string nm, .int .i64 v3, .int .i64 a2, .int .i64 v6] rfl rfl ?xa1 ?xa2 ?xa3 ?xa4 ?xa5 ?_)
        all_goals try (first | exact ⟨rfl, rfl, rfl, rfl⟩ | (intro j u hu; rw [Addr.add_lit, Nat.zero_add]; have hq := (Blk_.new (u6.setCell ⟨wr.heap.size, 3, none⟩ (.int .i64 v6)) 70 #[.string nm, .int .i64 v3, .int .i64 a2, .int .i64 v6]).cell j; simp only [World.size_setCell] at hq; rw [hq]; simpa using hu) | (intro u hu; simp only [List.mem_cons, List.not_mem_nil, or_false] at hu; rcases hu with rfl | rfl | rfl | rfl <;> rfl) | (have := HEL.out; unfold maxLen; omega) | (have := HEL.out; omega) | (have h5 := T6s.out.1.cat.lt; simp only [World.size_setCell] at h5; first | omega | (simp only [World.size_alloc, World.size_setCell]; omega)))
        intro A7 c7 w7 own7 hg7 _
        have HC7 := Lib.hid ((T6s.out.1.cat.alloc _).grown hg7 (fun k hk => by have := (T6s.out.1.o2.lt k hk).1; omega))
        have HS8 := Lib.hid ((T6s.out.up ((Ext.refl _).alloc _)).pushE (x := ⟨nm, v3, a2, v6⟩) hg7 own7 HOK.out)
        have q0 := HC7.out.cell 0
        have q1 := HC7.out.cell 1
        have z1 := HC7.out.frozen 1
        simp at q0 q1
        obtain ⟨es2, hes2⟩ : ∃ x, x = es ++ [(⟨nm, v3, a2, v6⟩ : Ent)] := ⟨_, rfl⟩
        have hl7 : es.length + 1 = es2.length := by rw [hes2, List.length_append]; rfl
        rw [← hes2] at HS8 HST6
        rw [hl7] at HS8 ⊢
        have HES2 := Lib.hid (show es2.length = k + 1 by rw [← hl7, HEL0.out])
        clear own7 hg7 HC7 hl7 hes2 T6s
        clear b0 by0 b1 by1 b2 by2 b3 by3 bl
        clear f0 f2 f3 fz2 fz3 fg0 fg1 fl
        go_wp2_with fail
        go_roundw
        case rel => exact ⟨k + 1, i6, _, A7, c7, es2, by first | rfl | go_num, by have := HKN.out; omega, HES2.out, hle6, HS8.out, HST6.out⟩
        case measure => have := HKN.out; (simp [intOf]; try omega)
      | true =>
       have HRR := Lib.hid (show R = (noCat, 5) from ESt.bad (j := n2 - k) (bl := bl) (es := es) (r := rr s i) hst)
       have hki : (k : Int) < (n2 : Int) := by omega
       have hkt : decide ((k : Int) < (n2 : Int)) = true := decide_eq_true hki
       clear hst
       have m0 := HS.out.2.2.1.cell 0
       have m1 := HS.out.2.2.1.cell 1
       have z0 := HS.out.2.2.1.frozen 0
       have z1 := HS.out.2.2.1.frozen 1
       have f3 := HS.out.2.2.2.2.cell 0
       simp at m0 m1 f3
       go_wp2_with fail
       have HXX := Lib.hid ((HS.out.1.ext.setCell (p := ⟨w.heap.size + 1, 0, none⟩) (by dsimp only; omega) (.slice none 0 0)).setCell (p := ⟨w.heap.size + 1, 1, none⟩) (by dsimp only; omega) (.slice none 0 0))
       have HRS := Lib.hid ((HS.out.2.2.1.set 0 (.slice none 0 0)).set 1 (.slice none 0 0))
       refine bodyPost_ret (res_cell_tmp rfl rfl HRS.out Tryz.underlying40 rfl (by kernel_rfl)) rfl ?_
       rw [HRR.out]
       exact ⟨none, 0, none, 0, rfl, HXX.out, noCat_read _⟩
     ·have hki : ¬ (k : Int) < (n2 : Int) := by omega
      have hkt : decide ((k : Int) < (n2 : Int)) = false := decide_eq_false hki
      obtain rfl : k = n2 := by omega
      rw [Nat.sub_self] at hst
      cases sh with
      | false =>
       have HRR := Lib.hid (show R = endCat bl es (lst (rr s i)) from ESt.fin hst)
       clear hst
       have HL3 := Lib.hid (show bl.length ≤ 1000 ∧ es.length ≤ 1000 by omega)
       have f3 := HS.out.2.2.2.2.cell 0
       simp at f3
       have HZ0 := Lib.hid (show zeros (rr s i) = zeros (rr s i) from rfl)
       obtain ⟨zz, hzz⟩ : ∃ zz, zz = zeros (rr s i) := ⟨_, rfl⟩
       have HZZ := Lib.hid hzz
       have hle := hi
       clear hzz
       go_wp2_with fail
       clear f3
       go_loopw [102] (fun _ wr => ∃ j : Nat, j ≤ s.size ∧ zeros (rr s j) = zz ∧ TX s w wr j false (.slice A1 bl.length c1) (.slice A2 es.length c2) bl es) (fun _ wr => s.size - (intOf ((wr.cell? ⟨w.heap.size + 2, 0, none⟩).getD undef)).toNat)
       case atStart => exact ⟨i, hle, HZZ.out.symm, HS.out⟩
       case round =>
        obtain ⟨j, hj, hzj, hT⟩ := hrel
        have HT := Lib.hid hT
        have HZJ := Lib.hid hzj
        clear hT hzj
        have hsI : (s.size : Int) ≤ 140737488355328 := by omega
        have p0 := HT.out.2.1.cell 0
        have p2 := HT.out.2.2.2.1.cell 0
        have p3 := HT.out.2.2.2.2.cell 0
        have pz2 := HT.out.2.2.2.1.frozen 0
        have pz3 := HT.out.2.2.2.2.frozen 0
        have pg0 := HT.out.1.cat.cell 0
        have pg1 := HT.out.1.cat.cell 1
        have pl := HT.out.1.cat.lt
        simp at p0 p2 p3 pg0 pg1
        by_cases hjs : j < s.size
        ·have hjI : (j : Int) < (s.size : Int) := by omega
         have hjl : j < (lst s).length := by rw [length_lst]; exact hjs
         have hcc : zeros (rr s j) = (((lst s).getD j 0 == 0) && zeros (rr s (j + 1))) := by
          unfold zeros
          rw [rr_cons hjs, List.all_cons]
          unfold rr
          rw [lst_bs]
         have hcv : s[j] = (lst s).getD j 0 := by
          rw [List.getD_eq_getElem?_getD, List.getElem?_eq_getElem hjl]; rfl
         obtain ⟨c, hc⟩ : ∃ c, c = s[j] := ⟨_, rfl⟩
         rw [← hcv, ← hc] at hcc
         have hcI : ((s[j].toNat : Nat) : Int) = (c.toNat : Int) := by rw [hc]
         have HJS := Lib.hid hjs
         by_cases hc0 : c = 0
         ·have HZN := Lib.hid (show zeros (rr s (j + 1)) = zz by rw [← HZJ.out, hcc, hc0]; rfl)
          have hct : ((c.toNat : Int) != 0) = false := by rw [hc0]; rfl
          have hcz : (c.toNat : Int) = 0 := by rw [hc0]; rfl
          have HT2 := Lib.hid (show TX s w (wr.setCell ⟨w.heap.size + 2, 0, none⟩ (.int .i64 ((j : Int) + 1))) (j + 1) false (.slice A1 bl.length c1) (.slice A2 es.length c2) bl es by
           have := HT.out.setI (j + 1)
           rw [show (((j + 1 : Nat) : Int)) = (j : Int) + 1 by omega] at this
           exact this)
          clear hcc hcv hc hc0
          go_wp2_with fail
          go_roundw
          case rel => exact ⟨j + 1, by have := HJS.out; omega, HZN.out, HT2.out⟩
          case measure =>
           have h2 := HT2.out.2.2.2.1.cell 0
           simp at h2
           have := HJS.out
           simp [intOf, h2, p2] <;> omega
         ·have hcz : ¬ (c.toNat : Int) = 0 := fun h => hc0 (UInt8.toNat_inj.1 (by show c.toNat = 0; omega))
          have hct : ((c.toNat : Int) != 0) = true := by simp [bne]; omega
          have HR4 := Lib.hid (show R = (noCat, 4) by
           rw [HRR.out]
           unfold endCat
           rw [show (lst (rr s i)).all (· == 0) = false from by
            show zeros (rr s i) = false
            rw [← HZZ.out, ← HZJ.out, hcc, beq_false_of_ne hc0]; rfl]
           rfl)
          have m0 := HT.out.2.2.1.cell 0
          have m1 := HT.out.2.2.1.cell 1
          have z0 := HT.out.2.2.1.frozen 0
          have z1 := HT.out.2.2.1.frozen 1
          simp at m0 m1
          clear hcc hcv hc hc0
          go_wp2_with fail
          have HXX := Lib.hid ((HT.out.1.ext.setCell (p := ⟨w.heap.size + 1, 0, none⟩) (by dsimp only; omega) (.slice none 0 0)).setCell (p := ⟨w.heap.size + 1, 1, none⟩) (by dsimp only; omega) (.slice none 0 0))
          have HRS := Lib.hid ((HT.out.2.2.1.set 0 (.slice none 0 0)).set 1 (.slice none 0 0))
          refine bodyPost_ret (res_cell_tmp rfl rfl HRS.out Tryz.underlying40 rfl (by kernel_rfl)) rfl ?_
          rw [HR4.out]
          exact ⟨none, 0, none, 0, rfl, HXX.out, noCat_read _⟩
        ·have hjI : ¬ (j : Int) < (s.size : Int) := by omega
         have HR0 := Lib.hid (show R = (if catFault ⟨bl, es⟩ = 0 then (⟨bl, es⟩, 0) else (noCat, catFault ⟨bl, es⟩)) by
          rw [HRR.out]
          unfold endCat
          rw [show (lst (rr s i)).all (· == 0) = true from by
           show zeros (rr s i) = true
           rw [← HZZ.out, ← HZJ.out, rr_end hjs]; rfl]
          rfl)
         go_wp2_with fail
         refine (catFault_any _ ⟨bl, es⟩ wr (HT.out.1.rcat HL3.out.1 HL3.out.2)).mono ?_
         rintro en w10 ⟨rfl, hx10⟩
         have HS10 := Lib.hid (HT.out.up hx10)
         clear hx10
         clear p0 p2 p3 pz2 pz3 pg0 pg1
         have z0 := HS10.out.2.2.1.frozen 0
         have z1 := HS10.out.2.2.1.frozen 1
         have m0 := HS10.out.2.2.1.cell 0
         have m1 := HS10.out.2.2.1.cell 1
         have g0 := HS10.out.1.cat.cell 0
         have g1 := HS10.out.1.cat.cell 1
         simp at m0 m1 g0 g1
         by_cases hc : catFault ⟨bl, es⟩ = 0
         ·have HRC := Lib.hid (show R = (⟨bl, es⟩, 0) by rw [HR0.out, if_pos hc])
          rw [hc]
          clear hc
          go_wp2_with fail
          have HXX := Lib.hid ((HS10.out.1.ext.setCell (p := ⟨w.heap.size + 1, 0, none⟩) (by dsimp only; omega) (.slice A1 bl.length c1)).setCell (p := ⟨w.heap.size + 1, 1, none⟩) (by dsimp only; omega) (.slice A2 es.length c2))
          have HRS := Lib.hid ((HS10.out.2.2.1.set 0 (.slice A1 bl.length c1)).set 1 (.slice A2 es.length c2))
          have HCX := Lib.hid ((HS10.out.1.by_ (setRow_by w10 (w.heap.size + 1) 0 (.slice A1 bl.length c1)) (by omega) (by omega) (by omega)).by_ (setRow_by _ (w.heap.size + 1) 1 (.slice A2 es.length c2)) (by omega) (by omega) (by omega))
          refine bodyPost_ret (res_cell_tmp rfl rfl HRS.out Tryz.underlying40 rfl (by kernel_rfl)) rfl ?_
          rw [HRC.out]
          exact ⟨A1, c1, A2, c2, rfl, HXX.out, HCX.out.rcat HL3.out.1 HL3.out.2⟩
         ·have HRC := Lib.hid (show R = (noCat, catFault ⟨bl, es⟩) by rw [HR0.out, if_neg hc])
          have hc' : (catFault ⟨bl, es⟩ != 0) = true := by simpa using hc
          clear hc HR0
          generalize catFault ⟨bl, es⟩ = cf at *
          go_wp2_with fail
          have HXX := Lib.hid ((HS10.out.1.ext.setCell (p := ⟨w.heap.size + 1, 0, none⟩) (by dsimp only; omega) (.slice none 0 0)).setCell (p := ⟨w.heap.size + 1, 1, none⟩) (by dsimp only; omega) (.slice none 0 0))
          have HRS := Lib.hid ((HS10.out.2.2.1.set 0 (.slice none 0 0)).set 1 (.slice none 0 0))
          refine bodyPost_ret (res_cell_tmp rfl rfl HRS.out Tryz.underlying40 rfl (by kernel_rfl)) rfl ?_
          rw [HRC.out]
          exact ⟨none, 0, none, 0, rfl, HXX.out, noCat_read _⟩
      | true =>
       have HRR := Lib.hid (show R = (noCat, 5) from ESt.bad hst)
       clear hst
       have m0 := HS.out.2.2.1.cell 0
       have m1 := HS.out.2.2.1.cell 1
       have z0 := HS.out.2.2.1.frozen 0
       have z1 := HS.out.2.2.1.frozen 1
       have f3 := HS.out.2.2.2.2.cell 0
       simp at m0 m1 f3
       go_wp2_with fail
       have HXX := Lib.hid ((HS.out.1.ext.setCell (p := ⟨w.heap.size + 1, 0, none⟩) (by dsimp only; omega) (.slice none 0 0)).setCell (p := ⟨w.heap.size + 1, 1, none⟩) (by dsimp only; omega) (.slice none 0 0))
       have HRS := Lib.hid ((HS.out.2.2.1.set 0 (.slice none 0 0)).set 1 (.slice none 0 0))
       refine bodyPost_ret (res_cell_tmp rfl rfl HRS.out Tryz.underlying40 rfl (by kernel_rfl)) rfl ?_
       rw [HRR.out]
       exact ⟨none, 0, none, 0, rfl, HXX.out, noCat_read _⟩
  ·have hki : ¬ (k : Int) < (n : Int) := by omega
   have hkt : decide ((k : Int) < (n : Int)) = false := decide_eq_false hki
   obtain rfl : k = n := by omega
   rw [Nat.sub_self] at hst
   have HPRE := Lib.hid (show BSt R 0 p bl (rr s i) (eO sh) ∨ (sh = true ∧ R = (noCat, 5)) from .inl hst)
   clear hst
   have HMID := Lib.hid (BSt.mid2 HPRE.out)
   have f0 := HS.out.2.1.cell 0
   have f2 := HS.out.2.2.2.1.cell 0
   have f3 := HS.out.2.2.2.2.cell 0
   have fz2 := HS.out.2.2.2.1.frozen 0
   have fz3 := HS.out.2.2.2.2.frozen 0
   have fg0 := HS.out.1.cat.cell 0
   have fg1 := HS.out.1.cat.cell 1
   have fl := HS.out.1.cat.lt
   simp at f0 f2 f3 fg0 fg1
   go_wp2_with fail
   refine (next_any HS.out hi hs).mono ?_
   rintro en u9 ⟨rfl, ht, hkeep⟩
   obtain ⟨v9, hv9⟩ : ∃ v, v = nextV s i := ⟨_, rfl⟩
   have hvr9 := nextV_range s i
   obtain ⟨i9, hi9⟩ : ∃ v, v = nextI s i := ⟨_, rfl⟩
   have hle9 := nextI_le hi
   rw [← hv9] at hvr9 ⊢
   rw [← hi9] at ht hle9
   obtain ⟨va9, vb9⟩ := hvr9
   have T9 := Lib.hid ht
   have V9 := Lib.hid hv9
   have I9 := Lib.hid hi9
   clear ht hkeep hv9 hi9
   clear f0 f2 f3 fz2 fz3 fg0 fg1 fl
   obtain ⟨n2, hn2⟩ := Int.eq_ofNat_of_zero_le va9
   subst hn2
   have hmid := HMID.out
   rw [← V9.out, ← I9.out, Int.toNat_natCast] at hmid
   have hn255 : n2 ≤ 255 := by omega
   have hbl300 : bl.length ≤ 300 := by omega
   obtain ⟨sh9, hsh9⟩ : ∃ b, b = nextH s i sh := ⟨_, rfl⟩
   rw [← hsh9] at T9 hmid
   clear hsh9 HMID HPRE va9 V9 I9 HS
   go_wp2_with fail
   go_loopw [12] (fun kv wr => ∃ (k : Nat) (i : Nat) (sh : Bool) (A2 : Option Addr) (c2 : Nat) (es : List Ent), kv = .int .i64 k ∧ k ≤ n2 ∧ es.length = k ∧ i ≤ s.size ∧ TX s w wr i sh (.slice A1 bl.length c1) (.slice A2 es.length c2) bl es ∧ ESt R (n2 - k) bl es (rr s i) (eO sh)) (fun kv _ => n2 - (intOf kv).toNat)
   case atStart => exact ⟨0, i9, sh9, none, 0, [], rfl, Nat.zero_le _, rfl, hle9, T9.out, hmid⟩
   case round =>
    clear T9 hmid hle9
    obtain ⟨k, i, sh, A2, c2, es, rfl, hk, hel0, hi, hS, hst⟩ := hrel
    have HEL0 := Lib.hid hel0
    have hel1 : es.length ≤ k := by omega
    have HS := Lib.hid hS
    clear hel0 hS
    by_cases hkn : k < n2
    ·cases sh with
     | false =>
      have HI0 := Lib.hid hi
      have hki : (k : Int) < (n2 : Int) := by omega
      have hkt : decide ((k : Int) < (n2 : Int)) = true := decide_eq_true hki
      have hj : n2 - k = (n2 - (k + 1)) + 1 := by omega
      rw [hj] at hst
      have HST := Lib.hid hst
      have HKN := Lib.hid hkn
      have hsI : (s.size : Int) ≤ 140737488355328 := by omega
      clear hst hj hi
      have HOW := Lib.hid (show (∀ k, (Value.slice A1 bl.length c1).ownBlock = some k → k < wr.heap.size) ∧ (∀ k, (Value.slice A2 es.length c2).ownBlock = some k → k < wr.heap.size) from ⟨fun k hk => (HS.out.1.o1.lt k hk).2, fun k hk => (HS.out.1.o2.lt k hk).2⟩)
      have hn1 : (Value.slice A1 bl.length c1).ownBlock ≠ some wr.heap.size := fun h => by have := HOW.out.1 _ h; omega
      have hn2 : (Value.slice A2 es.length c2).ownBlock ≠ some wr.heap.size := fun h => by have := HOW.out.2 _ h; omega
      have HNN := Lib.hid (And.intro hn1 hn2)
      clear hn1 hn2
      have lg : w.heap.size + 5 ≤ wr.heap.size := by have := HS.out.1.cat.lt; omega
      have f0 := HS.out.2.1.cell 0
      have f2 := HS.out.2.2.2.1.cell 0
      have f3 := HS.out.2.2.2.2.cell 0
      have fz2 := HS.out.2.2.2.1.frozen 0
      have fz3 := HS.out.2.2.2.2.frozen 0
      have fg0 := HS.out.1.cat.cell 0
      have fg1 := HS.out.1.cat.cell 1
      have fl := HS.out.1.cat.lt
      simp at f0 f2 f3 fg0 fg1
      go_wp2_with fail
      clear f0 f2 f3 fz2 fz3 fg0 fg1 fl
      refine calls_abs (fun W => Ext wr W ∧ Blk_ W wr.heap.size 70 #[.string .empty, .int .i64 0, .int .i64 0, .int .i64 0]) ⟨(Ext.refl _).alloc _, Blk_.new _ _ _⟩ ?_
      rintro W2 ⟨hx, hb⟩
      have HS2 := Lib.hid (HS.out.up hx)
      have HB := Lib.hid hb
      clear hx hb HS
      refine (next_any HS2.out HI0.out hs).mono ?_
      rintro en u1 ⟨rfl, ht, hkeep⟩
      obtain ⟨v1, hv1⟩ : ∃ v, v = nextV s i := ⟨_, rfl⟩
      have hvr1 := nextV_range s i
      obtain ⟨i1, hi1⟩ : ∃ v, v = nextI s i := ⟨_, rfl⟩
      have hle1 := nextI_le HI0.out
      rw [← hv1] at hvr1 ⊢
      rw [← hi1] at ht hle1
      obtain ⟨va1, vb1⟩ := hvr1
      have T1 := Lib.hid ht
      have V1 := Lib.hid hv1
      have I1 := Lib.hid hi1
      have HBn := Lib.hid (hkeep _ _ _ (by omega) HB.out)
      clear HB
      have HB := HBn
      clear HBn
      clear ht hkeep hv1 hi1
      obtain ⟨m, hm⟩ := Int.eq_ofNat_of_zero_le va1
      subst hm
      have hm255 : (m : Int) ≤ 255 := vb1
      clear va1 HS2
      have hi1I : (i1 : Int) ≤ (s.size : Int) := by omega
      obtain ⟨i2, hi2⟩ : ∃ v, v = i1 + m := ⟨_, rfl⟩
      have y12 : (i1 : Int) + (m : Int) = (i2 : Int) := by omega
      by_cases hov : s.size < i2
      ·have hovI : (s.size : Int) < (i2 : Int) := by omega
       have HRR := Lib.hid (show R = (noCat, 5) from HST.out.over HI0.out V1.out.symm (by rw [← I1.out, ← hi2]; exact hov))
       have f0 := T1.out.2.1.cell 0
       have f2 := T1.out.2.2.2.1.cell 0
       have f3 := T1.out.2.2.2.2.cell 0
       have fz2 := T1.out.2.2.2.1.frozen 0
       have fz3 := T1.out.2.2.2.2.frozen 0
       have fg0 := T1.out.1.cat.cell 0
       have fg1 := T1.out.1.cat.cell 1
       have fl := T1.out.1.cat.lt
       simp at f0 f2 f3 fg0 fg1
       have m0 := T1.out.2.2.1.cell 0
       have m1 := T1.out.2.2.1.cell 1
       have z0 := T1.out.2.2.1.frozen 0
       have z1 := T1.out.2.2.1.frozen 1
       simp at m0 m1
       have TH := Lib.hid (T1.out.setH true)
       clear hi2 hov
       go_wp2_with fail
       have HXX := Lib.hid ((TH.out.1.ext.setCell (p := ⟨w.heap.size + 1, 0, none⟩) (by dsimp only; omega) (.slice none 0 0)).setCell (p := ⟨w.heap.size + 1, 1, none⟩) (by dsimp only; omega) (.slice none 0 0))
       have HRS := Lib.hid ((TH.out.2.2.1.set 0 (.slice none 0 0)).set 1 (.slice none 0 0))
       refine bodyPost_ret (res_cell_tmp rfl rfl HRS.out Tryz.underlying40 rfl (by kernel_rfl)) rfl ?_
       rw [HRR.out]
       exact ⟨none, 0, none, 0, rfl, HXX.out, noCat_read _⟩
      ·have hovI : (i2 : Int) ≤ (s.size : Int) := by omega
       have hov0 : (0 : Int) ≤ (i1 : Int) := by omega
       have hov1 : (i1 : Int) ≤ (i2 : Int) := by omega
       have hle2 : i2 ≤ s.size := by omega
       obtain ⟨nm, hnm⟩ : ∃ q, q = s.extract i1 i2 := ⟨_, rfl⟩
       have HNM := Lib.hid hnm
       have HNS := Lib.hid (show nm.size ≤ 140737488355328 by rw [hnm, ByteArray.size_extract]; omega)
       have HI2 := Lib.hid hi2
       clear hnm hi2 hov
       have f0 := T1.out.2.1.cell 0
       have f2 := T1.out.2.2.2.1.cell 0
       have f3 := T1.out.2.2.2.2.cell 0
       have fz2 := T1.out.2.2.2.1.frozen 0
       have fz3 := T1.out.2.2.2.2.frozen 0
       have fg0 := T1.out.1.cat.cell 0
       have fg1 := T1.out.1.cat.cell 1
       have fl := T1.out.1.cat.lt
       simp at f0 f2 f3 fg0 fg1
       have b0 := HB.out.cell 0
       have by0 := HB.out.frozen 0
       have b1 := HB.out.cell 1
       have by1 := HB.out.frozen 1
       have b2 := HB.out.cell 2
       have by2 := HB.out.frozen 2
       have b3 := HB.out.cell 3
       have by3 := HB.out.frozen 3
       simp at b0 b1 b2 b3
       have bl := HB.out.lt
       have T2 := Lib.hid ((T1.out.off lg HNN.out.1 HNN.out.2 0 (.string nm)).setI i2)
       have HB2 := Lib.hid ((HB.out.set 0 (.string nm)).far (p := ⟨w.heap.size + 2, 0, none⟩) (by dsimp only; omega) (.int .i64 (i2 : Int)))
       clear HB T1
       go_wp2_with fail
       clear f0 f2 f3 fz2 fz3 fg0 fg1 fl
       clear b0 by0 b1 by1 b2 by2 b3 by3 bl
       rw [← HNM.out]
       refine (next_any T2.out hle2 hs).mono ?_
       rintro en u3 ⟨rfl, ht, hkeep⟩
       obtain ⟨v3, hv3⟩ : ∃ v, v = nextV s i2 := ⟨_, rfl⟩
       have hvr3 := nextV_range s i2
       obtain ⟨i3, hi3⟩ : ∃ v, v = nextI s i2 := ⟨_, rfl⟩
       have hle3 := nextI_le hle2
       rw [← hv3] at hvr3 ⊢
       rw [← hi3] at ht hle3
       obtain ⟨va3, vb3⟩ := hvr3
       have T3 := Lib.hid ht
       have V3 := Lib.hid hv3
       have I3 := Lib.hid hi3
       have HB2n := Lib.hid (hkeep _ _ _ (by omega) HB2.out)
       clear HB2
       have HB2 := HB2n
       clear HB2n
       clear ht hkeep hv3 hi3
       clear T2
       have b0 := HB2.out.cell 0
       have by0 := HB2.out.frozen 0
       have b1 := HB2.out.cell 1
       have by1 := HB2.out.frozen 1
       have b2 := HB2.out.cell 2
       have by2 := HB2.out.frozen 2
       have b3 := HB2.out.cell 3
       have by3 := HB2.out.frozen 3
       simp at b0 b1 b2 b3
       have bl := HB2.out.lt
       have T3 := T3
       have T3s := Lib.hid (T3.out.off lg HNN.out.1 HNN.out.2 1 (.int .i64 v3))
       have HB3 := Lib.hid (HB2.out.set 1 (.int .i64 v3))
       clear T3 HB2
       go_wp2_with fail
       clear b0 by0 b1 by1 b2 by2 b3 by3 bl
       refine (next_any T3s.out hle3 hs).mono ?_
       rintro en u4 ⟨rfl, ht, hkeep⟩
       obtain ⟨v4, hv4⟩ : ∃ v, v = nextV s i3 := ⟨_, rfl⟩
       have hvr4 := nextV_range s i3
       obtain ⟨i4, hi4⟩ : ∃ v, v = nextI s i3 := ⟨_, rfl⟩
       have hle4 := nextI_le hle3
       rw [← hv4] at hvr4 ⊢
       rw [← hi4] at ht hle4
       obtain ⟨va4, vb4⟩ := hvr4
       have T4 := Lib.hid ht
       have V4 := Lib.hid hv4
       have I4 := Lib.hid hi4
       have HB3n := Lib.hid (hkeep _ _ _ (by omega) HB3.out)
       clear HB3
       have HB3 := HB3n
       clear HB3n
       clear ht hkeep hv4 hi4
       clear T3s
       have b0 := HB3.out.cell 0
       have by0 := HB3.out.frozen 0
       have b1 := HB3.out.cell 1
       have by1 := HB3.out.frozen 1
       have b2 := HB3.out.cell 2
       have by2 := HB3.out.frozen 2
       have b3 := HB3.out.cell 3
       have by3 := HB3.out.frozen 3
       simp at b0 b1 b2 b3
       have bl := HB3.out.lt
       have T4s := Lib.hid (T4.out.off lg HNN.out.1 HNN.out.2 2 (.int .i64 (256 * v4)))
       have HB4 := Lib.hid (HB3.out.set 2 (.int .i64 (256 * v4)))
       clear T4 HB3
       go_wp2_with fail
       clear b0 by0 b1 by1 b2 by2 b3 by3 bl
       refine wp_abs (fun W => TX s w W i4 (nextH s i3 (nextH s i2 (nextH s i false))) (Value.slice A1 bl.length c1) (Value.slice A2 es.length c2) bl es ∧ Blk_ W wr.heap.size 70 #[.string nm, .int .i64 v3, .int .i64 (256 * v4), .int .i64 0]) ⟨T4s.out, HB4.out⟩ ?_
       rintro W4 ⟨hT4, hB4⟩
       clear T4s HB4
       have T4d := Lib.hid (hT4.up (Ext.refl _).drew)
       have HB4 := Lib.hid (hB4.drew)
       have b2 := hB4.cell 2
       simp at b2
       refine wp_region_begin (S := fun W' => W'.cell? ⟨wr.heap.size, 2, none⟩ = some (.int .i64 (256 * v4))) (n := 6) (by kernel_rfl) rfl (by kernel_rfl) rfl ?_
       have hS0 : (fun W' => W'.cell? ⟨wr.heap.size, 2, none⟩ = some (.int .i64 (256 * v4))) W4.drew := b2
       refine tkL 0 rfl (fun w' hS => by (try dsimp only at hS); go_simp; rfl) hS0 ?_
       refine tkL 1 rfl (fun w' hS => by (try dsimp only at hS); go_simp; rfl) hS0 ?_
       refine tkL 2 rfl (fun w' hS => by (try dsimp only at hS); go_simp; rfl) hS0 ?_
       try simp only [Act.put, List.setIfInBounds_toArray, List.set_cons_zero, List.set_cons_succ]
       refine wpAnyH_oneL (i := 3) rfl (by kernel_rfl) rfl (fun K hK => ?_)
       go_wp2_with fail
       refine (next_any T4d.out hle4 hs).mono ?_
       rintro en u5 ⟨rfl, ht, hkeep⟩
       obtain ⟨v5, hv5⟩ : ∃ v, v = nextV s i4 := ⟨_, rfl⟩
       have hvr5 := nextV_range s i4
       obtain ⟨i5, hi5⟩ : ∃ v, v = nextI s i4 := ⟨_, rfl⟩
       have hle5 := nextI_le hle4
       rw [← hv5] at hvr5 ⊢
       rw [← hi5] at ht hle5
       obtain ⟨va5, vb5⟩ := hvr5
       have T5 := Lib.hid ht
       have V5 := Lib.hid hv5
       have I5 := Lib.hid hi5
       have HB4n := Lib.hid (hkeep _ _ _ (by omega) HB4.out)
       clear HB4
       have HB4 := HB4n
       clear HB4n
       clear ht hkeep hv5 hi5
       have b2' := HB4.out.cell 2
       simp at b2'
       have hS1 : (fun W' => W'.cell? ⟨wr.heap.size, 2, none⟩ = some (.int .i64 (256 * v4))) u5 := b2'
       refine hK _ _ hS1 ?_
       clear hK K T4d hT4 hB4 b2 hS0
       refine tkL 4 rfl (fun w' hS => by (try dsimp only at hS); go_simp; rfl) hS1 ?_
       refine tkL 5 rfl (fun w' hS => by (try dsimp only at hS); go_simp; rfl) hS1 ?_
       try simp only [Act.put, List.setIfInBounds_toArray, List.set_cons_zero, List.set_cons_succ]
       refine wpAnyH_endL (by kernel_rfl) (fun K hK => ?_)
       clear b2' hS1
       have b0 := HB4.out.cell 0
       have by0 := HB4.out.frozen 0
       have b1 := HB4.out.cell 1
       have by1 := HB4.out.frozen 1
       have b2 := HB4.out.cell 2
       have by2 := HB4.out.frozen 2
       have b3 := HB4.out.cell 3
       have by3 := HB4.out.frozen 3
       simp at b0 b1 b2 b3
       have bl := HB4.out.lt
       obtain ⟨a2, ha2⟩ : ∃ v, v = 256 * v4 + v5 := ⟨_, rfl⟩
       have ha2' : 256 * v4 + v5 = a2 := ha2.symm
       have ha2r : 0 ≤ a2 ∧ a2 ≤ 65535 := by omega
       have HA2 := Lib.hid ha2
       clear ha2
       have T5s := Lib.hid (T5.out.off lg HNN.out.1 HNN.out.2 2 (.int .i64 a2))
       have HB5 := Lib.hid (HB4.out.set 2 (.int .i64 a2))
       clear T5 HB4
       go_wp2_with fail
       clear b0 by0 b1 by1 b2 by2 b3 by3 bl
       refine (next_any T5s.out hle5 hs).mono ?_
       rintro en u6 ⟨rfl, ht, hkeep⟩
       obtain ⟨v6, hv6⟩ : ∃ v, v = nextV s i5 := ⟨_, rfl⟩
       have hvr6 := nextV_range s i5
       obtain ⟨i6, hi6⟩ : ∃ v, v = nextI s i5 := ⟨_, rfl⟩
       have hle6 := nextI_le hle5
       rw [← hv6] at hvr6 ⊢
       rw [← hi6] at ht hle6
       obtain ⟨va6, vb6⟩ := hvr6
       have T6 := Lib.hid ht
       have V6 := Lib.hid hv6
       have I6 := Lib.hid hi6
       have HB5n := Lib.hid (hkeep _ _ _ (by omega) HB5.out)
       clear HB5
       have HB5 := HB5n
       clear HB5n
       clear ht hkeep hv6 hi6
       clear T5s
       have b0 := HB5.out.cell 0
       have by0 := HB5.out.frozen 0
       have b1 := HB5.out.cell 1
       have by1 := HB5.out.frozen 1
       have b2 := HB5.out.cell 2
       have by2 := HB5.out.frozen 2
       have b3 := HB5.out.cell 3
       have by3 := HB5.out.frozen 3
       simp at b0 b1 b2 b3
       have bl := HB5.out.lt
       have f0 := T6.out.2.1.cell 0
       have f2 := T6.out.2.2.2.1.cell 0
       have f3 := T6.out.2.2.2.2.cell 0
       have fz2 := T6.out.2.2.2.1.frozen 0
       have fz3 := T6.out.2.2.2.2.frozen 0
       have fg0 := T6.out.1.cat.cell 0
       have fg1 := T6.out.1.cat.cell 1
       have fl := T6.out.1.cat.lt
       simp at f0 f2 f3 fg0 fg1
       have T6s := Lib.hid (T6.out.off lg HNN.out.1 HNN.out.2 3 (.int .i64 v6))
       have HST6 := Lib.hid (HST.out.entry (i1 := i1) (i2 := i2) (i3 := i3) (i4 := i4) (i5 := i5) (i6 := i6) HI0.out V1.out.symm (by rw [← HI2.out]; exact hle2) I1.out HI2.out I3.out I4.out I5.out I6.out rfl)
       rw [← HNM.out, ← V3.out, ← V4.out, ← V5.out, ← V6.out, ← HA2.out] at HST6
       have HEL := Lib.hid (show es.length ≤ 255 by omega)
       have hel : (es.length : Int) ≤ 255 := by omega
       have HOK := Lib.hid (show EntOk ⟨nm, v3, a2, v6⟩ from ⟨HNS.out, by show I64 v3; unfold I64; omega, by show I64 a2; unfold I64; omega, by show I64 v6; unfold I64; omega⟩)
       clear HB5 T6
       go_wp2_with (at_builtin; refine wpList_append_at _ rfl (.tmp 95) (.tmp 97) 38 rfl (w.heap.size + 5) 70 j1 (.agg #[.string .empty, .int .i64 0, .int .i64 0, .int .i64 0]) 4 40 Tryz.underlying38 HIE.out.1 HIE.out.2.1 HIE.out.2.2.1 HIE.out.2.2.2 rfl (by decide) _ es.length _ rfl (own_ext T6s.out.1.o2 ((Ext.refl _).alloc _)) ⟨u6.heap.size, 0, none⟩ 1 1 [.string nm, .int .i64 v3, .int .i64 a2, .int .i64 v6] rfl rfl ?xb1 ?xb2 ?xb3 ?xb4 ?xb5 ?_)
       all_goals try (first | exact ⟨rfl, rfl, rfl, rfl⟩ | (intro j u hu; rw [Addr.add_lit, Nat.zero_add]; have hq := (Blk_.new (u6.setCell ⟨wr.heap.size, 3, none⟩ (.int .i64 v6)) 70 #[.string nm, .int .i64 v3, .int .i64 a2, .int .i64 v6]).cell j; simp only [World.size_setCell] at hq; rw [hq]; simpa using hu) | (intro u hu; simp only [List.mem_cons, List.not_mem_nil, or_false] at hu; rcases hu with rfl | rfl | rfl | rfl <;> rfl) | (have := HEL.out; unfold maxLen; omega) | (have := HEL.out; omega) | (have h5 := T6s.out.1.cat.lt; simp only [World.size_setCell] at h5; first | omega | (simp only [World.size_alloc, World.size_setCell]; omega)))
       intro A7 c7 w7 own7 hg7 _
       have HC7 := Lib.hid ((T6s.out.1.cat.alloc _).grown hg7 (fun k hk => by have := (T6s.out.1.o2.lt k hk).1; omega))
       have HS8 := Lib.hid ((T6s.out.up ((Ext.refl _).alloc _)).pushE (x := ⟨nm, v3, a2, v6⟩) hg7 own7 HOK.out)
       have q0 := HC7.out.cell 0
       have q1 := HC7.out.cell 1
       have z1 := HC7.out.frozen 1
       simp at q0 q1
       obtain ⟨es2, hes2⟩ : ∃ x, x = es ++ [(⟨nm, v3, a2, v6⟩ : Ent)] := ⟨_, rfl⟩
       have hl7 : es.length + 1 = es2.length := by rw [hes2, List.length_append]; rfl
       rw [← hes2] at HS8 HST6
       rw [hl7] at HS8 ⊢
       have HES2 := Lib.hid (show es2.length = k + 1 by rw [← hl7, HEL0.out])
       clear own7 hg7 HC7 hl7 hes2 T6s
       clear b0 by0 b1 by1 b2 by2 b3 by3 bl
       clear f0 f2 f3 fz2 fz3 fg0 fg1 fl
       go_wp2_with fail
       go_roundw
       case rel => exact ⟨k + 1, i6, _, A7, c7, es2, by first | rfl | go_num, by have := HKN.out; omega, HES2.out, hle6, HS8.out, HST6.out⟩
       case measure => have := HKN.out; (simp [intOf]; try omega)
     | true =>
      have HRR := Lib.hid (show R = (noCat, 5) from ESt.bad (j := n2 - k) (bl := bl) (es := es) (r := rr s i) hst)
      have hki : (k : Int) < (n2 : Int) := by omega
      have hkt : decide ((k : Int) < (n2 : Int)) = true := decide_eq_true hki
      clear hst
      have m0 := HS.out.2.2.1.cell 0
      have m1 := HS.out.2.2.1.cell 1
      have z0 := HS.out.2.2.1.frozen 0
      have z1 := HS.out.2.2.1.frozen 1
      have f3 := HS.out.2.2.2.2.cell 0
      simp at m0 m1 f3
      go_wp2_with fail
      have HXX := Lib.hid ((HS.out.1.ext.setCell (p := ⟨w.heap.size + 1, 0, none⟩) (by dsimp only; omega) (.slice none 0 0)).setCell (p := ⟨w.heap.size + 1, 1, none⟩) (by dsimp only; omega) (.slice none 0 0))
      have HRS := Lib.hid ((HS.out.2.2.1.set 0 (.slice none 0 0)).set 1 (.slice none 0 0))
      refine bodyPost_ret (res_cell_tmp rfl rfl HRS.out Tryz.underlying40 rfl (by kernel_rfl)) rfl ?_
      rw [HRR.out]
      exact ⟨none, 0, none, 0, rfl, HXX.out, noCat_read _⟩
    ·have hki : ¬ (k : Int) < (n2 : Int) := by omega
     have hkt : decide ((k : Int) < (n2 : Int)) = false := decide_eq_false hki
     obtain rfl : k = n2 := by omega
     rw [Nat.sub_self] at hst
     cases sh with
     | false =>
      have HRR := Lib.hid (show R = endCat bl es (lst (rr s i)) from ESt.fin hst)
      clear hst
      have HL3 := Lib.hid (show bl.length ≤ 1000 ∧ es.length ≤ 1000 by omega)
      have f3 := HS.out.2.2.2.2.cell 0
      simp at f3
      have HZ0 := Lib.hid (show zeros (rr s i) = zeros (rr s i) from rfl)
      obtain ⟨zz, hzz⟩ : ∃ zz, zz = zeros (rr s i) := ⟨_, rfl⟩
      have HZZ := Lib.hid hzz
      have hle := hi
      clear hzz
      go_wp2_with fail
      clear f3
      go_loopw [102] (fun _ wr => ∃ j : Nat, j ≤ s.size ∧ zeros (rr s j) = zz ∧ TX s w wr j false (.slice A1 bl.length c1) (.slice A2 es.length c2) bl es) (fun _ wr => s.size - (intOf ((wr.cell? ⟨w.heap.size + 2, 0, none⟩).getD undef)).toNat)
      case atStart => exact ⟨i, hle, HZZ.out.symm, HS.out⟩
      case round =>
       obtain ⟨j, hj, hzj, hT⟩ := hrel
       have HT := Lib.hid hT
       have HZJ := Lib.hid hzj
       clear hT hzj
       have hsI : (s.size : Int) ≤ 140737488355328 := by omega
       have p0 := HT.out.2.1.cell 0
       have p2 := HT.out.2.2.2.1.cell 0
       have p3 := HT.out.2.2.2.2.cell 0
       have pz2 := HT.out.2.2.2.1.frozen 0
       have pz3 := HT.out.2.2.2.2.frozen 0
       have pg0 := HT.out.1.cat.cell 0
       have pg1 := HT.out.1.cat.cell 1
       have pl := HT.out.1.cat.lt
       simp at p0 p2 p3 pg0 pg1
       by_cases hjs : j < s.size
       ·have hjI : (j : Int) < (s.size : Int) := by omega
        have hjl : j < (lst s).length := by rw [length_lst]; exact hjs
        have hcc : zeros (rr s j) = (((lst s).getD j 0 == 0) && zeros (rr s (j + 1))) := by
         unfold zeros
         rw [rr_cons hjs, List.all_cons]
         unfold rr
         rw [lst_bs]
        have hcv : s[j] = (lst s).getD j 0 := by
         rw [List.getD_eq_getElem?_getD, List.getElem?_eq_getElem hjl]; rfl
        obtain ⟨c, hc⟩ : ∃ c, c = s[j] := ⟨_, rfl⟩
        rw [← hcv, ← hc] at hcc
        have hcI : ((s[j].toNat : Nat) : Int) = (c.toNat : Int) := by rw [hc]
        have HJS := Lib.hid hjs
        by_cases hc0 : c = 0
        ·have HZN := Lib.hid (show zeros (rr s (j + 1)) = zz by rw [← HZJ.out, hcc, hc0]; rfl)
         have hct : ((c.toNat : Int) != 0) = false := by rw [hc0]; rfl
         have hcz : (c.toNat : Int) = 0 := by rw [hc0]; rfl
         have HT2 := Lib.hid (show TX s w (wr.setCell ⟨w.heap.size + 2, 0, none⟩ (.int .i64 ((j : Int) + 1))) (j + 1) false (.slice A1 bl.length c1) (.slice A2 es.length c2) bl es by
          have := HT.out.setI (j + 1)
          rw [show (((j + 1 : Nat) : Int)) = (j : Int) + 1 by omega] at this
          exact this)
         clear hcc hcv hc hc0
         go_wp2_with fail
         go_roundw
         case rel => exact ⟨j + 1, by have := HJS.out; omega, HZN.out, HT2.out⟩
         case measure =>
          have h2 := HT2.out.2.2.2.1.cell 0
          simp at h2
          have := HJS.out
          simp [intOf, h2, p2] <;> omega
        ·have hcz : ¬ (c.toNat : Int) = 0 := fun h => hc0 (UInt8.toNat_inj.1 (by show c.toNat = 0; omega))
         have hct : ((c.toNat : Int) != 0) = true := by simp [bne]; omega
         have HR4 := Lib.hid (show R = (noCat, 4) by
          rw [HRR.out]
          unfold endCat
          rw [show (lst (rr s i)).all (· == 0) = false from by
           show zeros (rr s i) = false
           rw [← HZZ.out, ← HZJ.out, hcc, beq_false_of_ne hc0]; rfl]
          rfl)
         have m0 := HT.out.2.2.1.cell 0
         have m1 := HT.out.2.2.1.cell 1
         have z0 := HT.out.2.2.1.frozen 0
         have z1 := HT.out.2.2.1.frozen 1
         simp at m0 m1
         clear hcc hcv hc hc0
         go_wp2_with fail
         have HXX := Lib.hid ((HT.out.1.ext.setCell (p := ⟨w.heap.size + 1, 0, none⟩) (by dsimp only; omega) (.slice none 0 0)).setCell (p := ⟨w.heap.size + 1, 1, none⟩) (by dsimp only; omega) (.slice none 0 0))
         have HRS := Lib.hid ((HT.out.2.2.1.set 0 (.slice none 0 0)).set 1 (.slice none 0 0))
         refine bodyPost_ret (res_cell_tmp rfl rfl HRS.out Tryz.underlying40 rfl (by kernel_rfl)) rfl ?_
         rw [HR4.out]
         exact ⟨none, 0, none, 0, rfl, HXX.out, noCat_read _⟩
       ·have hjI : ¬ (j : Int) < (s.size : Int) := by omega
        have HR0 := Lib.hid (show R = (if catFault ⟨bl, es⟩ = 0 then (⟨bl, es⟩, 0) else (noCat, catFault ⟨bl, es⟩)) by
         rw [HRR.out]
         unfold endCat
         rw [show (lst (rr s i)).all (· == 0) = true from by
          show zeros (rr s i) = true
          rw [← HZZ.out, ← HZJ.out, rr_end hjs]; rfl]
         rfl)
        go_wp2_with fail
        refine (catFault_any _ ⟨bl, es⟩ wr (HT.out.1.rcat HL3.out.1 HL3.out.2)).mono ?_
        rintro en w10 ⟨rfl, hx10⟩
        have HS10 := Lib.hid (HT.out.up hx10)
        clear hx10
        clear p0 p2 p3 pz2 pz3 pg0 pg1
        have z0 := HS10.out.2.2.1.frozen 0
        have z1 := HS10.out.2.2.1.frozen 1
        have m0 := HS10.out.2.2.1.cell 0
        have m1 := HS10.out.2.2.1.cell 1
        have g0 := HS10.out.1.cat.cell 0
        have g1 := HS10.out.1.cat.cell 1
        simp at m0 m1 g0 g1
        by_cases hc : catFault ⟨bl, es⟩ = 0
        ·have HRC := Lib.hid (show R = (⟨bl, es⟩, 0) by rw [HR0.out, if_pos hc])
         rw [hc]
         clear hc
         go_wp2_with fail
         have HXX := Lib.hid ((HS10.out.1.ext.setCell (p := ⟨w.heap.size + 1, 0, none⟩) (by dsimp only; omega) (.slice A1 bl.length c1)).setCell (p := ⟨w.heap.size + 1, 1, none⟩) (by dsimp only; omega) (.slice A2 es.length c2))
         have HRS := Lib.hid ((HS10.out.2.2.1.set 0 (.slice A1 bl.length c1)).set 1 (.slice A2 es.length c2))
         have HCX := Lib.hid ((HS10.out.1.by_ (setRow_by w10 (w.heap.size + 1) 0 (.slice A1 bl.length c1)) (by omega) (by omega) (by omega)).by_ (setRow_by _ (w.heap.size + 1) 1 (.slice A2 es.length c2)) (by omega) (by omega) (by omega))
         refine bodyPost_ret (res_cell_tmp rfl rfl HRS.out Tryz.underlying40 rfl (by kernel_rfl)) rfl ?_
         rw [HRC.out]
         exact ⟨A1, c1, A2, c2, rfl, HXX.out, HCX.out.rcat HL3.out.1 HL3.out.2⟩
        ·have HRC := Lib.hid (show R = (noCat, catFault ⟨bl, es⟩) by rw [HR0.out, if_neg hc])
         have hc' : (catFault ⟨bl, es⟩ != 0) = true := by simpa using hc
         clear hc HR0
         generalize catFault ⟨bl, es⟩ = cf at *
         go_wp2_with fail
         have HXX := Lib.hid ((HS10.out.1.ext.setCell (p := ⟨w.heap.size + 1, 0, none⟩) (by dsimp only; omega) (.slice none 0 0)).setCell (p := ⟨w.heap.size + 1, 1, none⟩) (by dsimp only; omega) (.slice none 0 0))
         have HRS := Lib.hid ((HS10.out.2.2.1.set 0 (.slice none 0 0)).set 1 (.slice none 0 0))
         refine bodyPost_ret (res_cell_tmp rfl rfl HRS.out Tryz.underlying40 rfl (by kernel_rfl)) rfl ?_
         rw [HRC.out]
         exact ⟨none, 0, none, 0, rfl, HXX.out, noCat_read _⟩
     | true =>
      have HRR := Lib.hid (show R = (noCat, 5) from ESt.bad hst)
      clear hst
      have m0 := HS.out.2.2.1.cell 0
      have m1 := HS.out.2.2.1.cell 1
      have z0 := HS.out.2.2.1.frozen 0
      have z1 := HS.out.2.2.1.frozen 1
      have f3 := HS.out.2.2.2.2.cell 0
      simp at m0 m1 f3
      go_wp2_with fail
      have HXX := Lib.hid ((HS.out.1.ext.setCell (p := ⟨w.heap.size + 1, 0, none⟩) (by dsimp only; omega) (.slice none 0 0)).setCell (p := ⟨w.heap.size + 1, 1, none⟩) (by dsimp only; omega) (.slice none 0 0))
      have HRS := Lib.hid ((HS.out.2.2.1.set 0 (.slice none 0 0)).set 1 (.slice none 0 0))
      refine bodyPost_ret (res_cell_tmp rfl rfl HRS.out Tryz.underlying40 rfl (by kernel_rfl)) rfl ?_
      rw [HRR.out]
      exact ⟨none, 0, none, 0, rfl, HXX.out, noCat_read _⟩
end Go.Proofs.YtjadmfdlggnlgaaGreatDoor
