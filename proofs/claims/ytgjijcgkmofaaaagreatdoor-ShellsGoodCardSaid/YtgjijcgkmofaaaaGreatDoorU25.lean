/-
  shell.act: any act, as actS tells. Conditions: no copy of the array tells anything wrong, the cursor is within it; for acts that add, the catalog may be and the names rise; scrubs are within bounds.
-/
import Derived.Test.YtgjijcgkmofaaaaGreatDoorU24
import Derived.Lib.AppendZeros
namespace Go.Proofs.YtgjijcgkmofaaaaGreatDoor
set_option linter.unusedSimpArgs false
set_option linter.unusedVariables false
set_option maxRecDepth 100000
set_option maxHeartbeats 8000000
open Go.RowKit
def ActPost (gs : Nat) (A : Option Addr) (c : Nat) (s : Sh) (r : Sh × Ans) (w : World) (e : Ending) (w' : World) : Prop :=
 ∃ Vn Vg A' c', e = .returned (.agg #[.int .i64 r.2.code, .string r.2.data, Vn, .int .i64 r.2.count, Vg]) ∧ w.grownBy w' (some gs) ∧ Blk_ w' gs 123 #[.slice A' 3 c', .int .i64 (r.1.next : Int), .int .i64 (r.1.rounds : Int)] ∧
  ((A' = A ∧ c' = c ∧ r.1.a = s.a) ∨ Fresh w w' (fun W => RArr W [.slice A' 3 c'] r.1.a)) ∧ Fresh w w' (fun W => SlR 1 16 RStr W Vn r.2.names) ∧ Fresh w w' (fun W => SlR 1 8 RInt W Vg r.2.gone)
theorem post_same {gs : Nat} {A : Option Addr} {c : Nat} {s : Sh} {w w' : World} {a : Ans} {Vn Vg : Value} (hb : Blk_ w gs 123 #[.slice A 3 c, .int .i64 (s.next : Int), .int .i64 (s.rounds : Int)]) (hx : Ext w w')
  (hn : Fresh w w' (fun W => SlR 1 16 RStr W Vn a.names)) (hg : Fresh w w' (fun W => SlR 1 8 RInt W Vg a.gone)) : ActPost gs A c s (s, a) w (.returned (.agg #[.int .i64 a.code, .string a.data, Vn, .int .i64 a.count, Vg])) w' :=
 ⟨Vn, Vg, A, c, rfl, hx.by_ _, hb.ext hx, .inl ⟨rfl, rfl, rfl⟩, hn, hg⟩
theorem post_err {gs : Nat} {A : Option Addr} {c : Nat} {s : Sh} {w w' : World} {k : Int} (hb : Blk_ w gs 123 #[.slice A 3 c, .int .i64 (s.next : Int), .int .i64 (s.rounds : Int)]) (hx : Ext w w') :
  ActPost gs A c s (s, ansE k) w (.returned (.agg #[.int .i64 k, .string .empty, .slice none 0 0, .int .i64 0, .slice none 0 0])) w' :=
 post_same (a := ansE k) hb hx (fresh_nil encStr_ok w w') (fresh_nil encInt_ok w w')
theorem post_moves {gs : Nat} {A : Option Addr} {c : Nat} {s : Sh} {w w' : World} {a' : List Dev} {all : List ByteArray} (hm : Moves gs w w' a' (s.next : Int) (s.rounds : Int)) :
  ActPost gs A c s (⟨a', all, s.next, s.rounds⟩, ansE 0) w (.returned (.agg #[.int .i64 0, .string .empty, .slice none 0 0, .int .i64 0, .slice none 0 0])) w' := by
 obtain ⟨A', c', hg, hb, hf⟩ := hm
 exact ⟨_, _, A', c', rfl, hg, hb, .inr hf, fresh_nil encStr_ok w w', fresh_nil encInt_ok w w'⟩
theorem health_code {a : List Dev} {m : Nat} (h : Good a m) (h16 : 16 ≤ m) (h2 : m % 2 = 0) : (healthS a).2.2 = 0 := by
 unfold healthS
 rw [h.may h16 h2]
 rfl
theorem act_any (gs : Nat) (A : Option Addr) (c m : Nat) (s : Sh) (x : ActD) (vf : Value) (w : World) (hb : Blk_ w gs 123 #[.slice A 3 c, .int .i64 (s.next : Int), .int .i64 (s.rounds : Int)]) (hr : RArr w [.slice A 3 c] s.a)
  (hx : RAct w [.int .i64 x.kind, vf, .string x.name, .int .i64 x.d, .int .i64 x.n, .int .i64 x.at_, .int .i64 x.by_] x) (h16 : 16 ≤ m) (h64 : m ≤ 64) (h2 : m % 2 = 0) (hs : ShOk m s)
  (hcf : x.kind = 1 → (openS s.a).2 = 0 → catFault (openS s.a).1 = 0) (hu : x.kind = 1 → (openS s.a).2 = 0 → filesS x.files = 0 → Up (openS s.a).1.blocks.length (openS s.a).1.entries 0 x.files) (hl3 : x.kind = 1 → (addS s.a x.files).2 = 0 → (addS s.a x.files).1.length = 3) (hn : x.kind = 7 → (0 ≤ x.n ∧ x.n ≤ 64) ∨ x.n < 0) :
  Calls Tryz.prog 62 #[.pointer (some ⟨gs, 0, none⟩), .agg #[.int .i64 x.kind, vf, .string x.name, .int .i64 x.d, .int .i64 x.n, .int .i64 x.at_, .int .i64 x.by_]] w fun e w' => ActPost gs A c s (actS m s x) w e w' := by
 obtain ⟨kd, fs, nm, d, n, p, b⟩ := x
 obtain ⟨v, hv, hf, i1, i2, i3, i4, i5, i6⟩ := hx
 have hvf : vf = v := by simp only [List.cons.injEq] at hv; exact hv.2.1
 subst hvf
 clear hv
 dsimp only at *
 have h3 := hs.part.good.len
 have hmay := hs.part.good.may h16 h2
 unfold actS
 dsimp only
 by_cases k1 : kd = 1
 ·subst k1
  rw [if_pos rfl]
  refine (act_add gs A c s.a s.next s.rounds vf nm d n p b w hb hr h3 fs hf (hcf rfl) (fun _ => hmay) (hu rfl) (hl3 rfl)).mono ?_
  rintro e w' ⟨rfl, h | h⟩
  ·rw [if_neg h.1]; exact post_err hb h.2
  ·rw [if_pos h.1, h.1]; exact post_moves h.2
 rw [if_neg k1]
 by_cases k2 : kd = 2
 ·subst k2
  rw [if_pos rfl]
  refine (act_get gs A c s.a s.next s.rounds vf nm d n p b w hb hr h3 i1).mono ?_
  rintro e w' ⟨rfl, h⟩
  exact post_same (a := ⟨(getS s.a nm).2, (getS s.a nm).1, [], 0, []⟩) hb h (fresh_nil encStr_ok w w') (fresh_nil encInt_ok w w')
 rw [if_neg k2]
 by_cases k3 : kd = 3
 ·subst k3
  rw [if_pos rfl]
  refine (act_list gs A c s.a s.next s.rounds vf nm d n p b w hb hr h3).mono ?_
  rintro e w' ⟨Vn, rfl, h, hn⟩
  exact post_same (a := ⟨(openS s.a).2, .empty, (openS s.a).1.entries.map (·.name), 0, []⟩) hb h hn (fresh_nil encInt_ok w w')
 rw [if_neg k3]
 by_cases k4 : kd = 4
 ·subst k4
  rw [if_pos rfl]
  cases hi : inB d 0 2 with
  | true =>
   obtain ⟨h0, h1⟩ := inB_true hi
   obtain ⟨k, rfl⟩ := Int.eq_ofNat_of_zero_le h0
   rw [if_pos rfl, Int.toNat_natCast]
   refine (act_lose gs A c s.a s.next s.rounds vf nm k n p b w hb hr h3 k rfl (by omega) i4 i5 i6).mono ?_
   rintro e w' ⟨rfl, h | h⟩
   ·unfold hurtS; rw [if_neg h.1]; exact post_err hb h.2
   ·unfold hurtS; rw [if_pos h.1, h.1, Int.toNat_natCast]; exact post_moves h.2
  | false =>
   rw [if_neg (by decide)]
   refine (act_loseRange gs A c s.a s.next s.rounds vf nm d n p b w hb hr h3 (inB_false hi)).mono ?_
   rintro e w' ⟨rfl, h⟩
   exact post_err hb h
 rw [if_neg k4]
 by_cases k5 : kd = 5
 ·subst k5
  rw [if_pos rfl]
  cases hi : inB d 0 2 with
  | true =>
   obtain ⟨h0, h1⟩ := inB_true hi
   obtain ⟨k, rfl⟩ := Int.eq_ofNat_of_zero_le h0
   rw [if_pos rfl, Int.toNat_natCast]
   refine (act_turn gs A c s.a s.next s.rounds vf nm k n p b w hb hr h3 k rfl (by omega) i4 i5 i6).mono ?_
   rintro e w' ⟨rfl, h | h⟩
   ·unfold hurtS; rw [if_neg h.1]; exact post_err hb h.2
   ·unfold hurtS; rw [if_pos h.1, h.1, Int.toNat_natCast]; exact post_moves h.2
  | false =>
   rw [if_neg (by decide)]
   refine (act_turnRange gs A c s.a s.next s.rounds vf nm d n p b w hb hr h3 (inB_false hi)).mono ?_
   rintro e w' ⟨rfl, h⟩
   exact post_err hb h
 rw [if_neg k5]
 by_cases k6 : kd = 6
 ·subst k6
  rw [if_pos rfl]
  refine (act_replace gs A c s.a s.next s.rounds vf nm d n p b w hb hr h3 i3).mono ?_
  rintro e w' ⟨rfl, h | h⟩
  ·rw [if_neg h.1]; exact post_err hb h.2
  ·rw [if_pos h.1, h.1]; exact post_moves h.2
 rw [if_neg k6]
 by_cases k7 : kd = 7
 ·subst k7
  rcases hn rfl with ⟨h0, h1⟩ | hneg
  case inr =>
   rw [if_pos rfl, if_neg (show ¬ inB n 0 64 = true by intro e; have := inB_true e; omega)]
   refine (act_scrubRange gs A c s.a s.next s.rounds vf nm d n p b w hb hr h3 m s.next s.rounds s.all rfl rfl hs.part h16 h64 h2 hs.next (by have := hs.rounds; omega) hneg).mono ?_
   rintro e w' ⟨rfl, h⟩
   exact post_err hb h
  obtain ⟨k, rfl⟩ := Int.eq_ofNat_of_zero_le h0
  rw [if_pos rfl, if_pos (show inB (k : Int) 0 64 = true by unfold inB; simp only [Bool.and_eq_true, decide_eq_true_eq]; omega), Int.toNat_natCast]
  refine (act_scrub gs A c s.a s.next s.rounds vf nm d k p b w hb hr h3 m s.next s.rounds k s.all rfl rfl rfl hs.part h16 h64 h2 hs.next (by have := hs.rounds; omega) (by omega)).mono ?_
  rintro e w' ⟨Vg, r, hrr, rfl, ⟨A', c', hg, hb', hf'⟩, hgo⟩
  rw [← hrr]
  exact ⟨_, Vg, A', c', rfl, hg, hb', .inr hf', fresh_nil encStr_ok w w', hgo⟩
 rw [if_neg k7]
 by_cases k8 : kd = 8
 ·subst k8
  rw [if_pos rfl]
  refine (act_health gs A c s.a s.next s.rounds vf nm d n p b w hb hr h3 m s.all hs.part h16 h64 h2).mono ?_
  rintro e w' ⟨Vg, rfl, h, hg⟩
  rw [health_code hs.part.good h16 h2]
  exact post_same (a := ⟨0, .empty, [], (healthS s.a).1, (healthS s.a).2.1⟩) hb h (fresh_nil encStr_ok w w') hg
 rw [if_neg k8]
 refine (act_none gs A c s.a s.next s.rounds vf nm d n p b w hb hr h3 kd (by omega)).mono ?_
 rintro e w' ⟨rfl, h⟩
 exact post_err hb h
section
variable {P : Program} {fn : Func} {p' u y : Tmp} {ty' : TypeId} {tmps : Array Value} {w : World} {g' : Nat} {cs' : Array Value} {t' : TypeId} {d' : TypeDesc}
theorem res_tmp_cell_tmp (h : fn.results = #[.tmp u, .cell p' ty', .tmp y]) (ha' : tmps.getD p' undef = .pointer (some ⟨g', 0, none⟩)) (hb' : Blk_ w g' t' cs') (hu' : P.underlying ty' = some d')
  (hd' : (match d' with | .struct _ | .array _ _ => true | _ => false) = true) (hi' : (P.info? ty').map (·.size) = some cs'.size) :
  (results fn tmps).run P w = .ok (.tuple #[tmps.getD u undef, .agg cs', tmps.getD y undef]) w := by
 have ha2 : tmps[p']?.getD undef = .pointer (some ⟨g', 0, none⟩) := by simpa using ha'
 simp only [results, h]
 simp [Sem.run_bind, Result.andThen, ha2, asAddr, run_load_blk hb' hu' hd' hi']
end
def ActFine (m : Nat) (s : Sh) (x : ActD) : Prop := ShOk m s ∧ (x.kind = 1 → (openS s.a).2 = 0 → catFault (openS s.a).1 = 0) ∧ (x.kind = 1 → (openS s.a).2 = 0 → filesS x.files = 0 → Up (openS s.a).1.blocks.length (openS s.a).1.entries 0 x.files) ∧
 (x.kind = 1 → (addS s.a x.files).2 = 0 → (addS s.a x.files).1.length = 3) ∧ (x.kind = 7 → (0 ≤ x.n ∧ x.n ≤ 64) ∨ x.n < 0)
def sh0 (m : Nat) : Sh := ⟨(newArrS (m : Int)).1, List.replicate m zero24, 0, 0⟩
structure AnsV where
 a : Ans
 n : Value
 g : Value
def encAns (x : AnsV) : List Value := [.int .i64 x.a.code, .string x.a.data, x.n, .int .i64 x.a.count, x.g]
def RAns : Rd Ans := fun w cs x => ∃ n g, cs = [.int .i64 x.code, .string x.data, n, .int .i64 x.count, g] ∧ SlR 1 16 RStr w n x.names ∧ SlR 1 8 RInt w g x.gone
theorem info_answer : (Tryz.prog.info? 46).map (fun i => (i.zero, i.size, i.bytes)) = some (some (.agg #[.int .i64 0, .string .empty, .slice none 0 0, .int .i64 0, .slice none 0 0]), 5, 80) := by kernel_rfl
structure RunW (w W : World) (gs : Nat) (A : Option Addr) (c : Nat) (s : Sh) (V : Value) (L : List AnsV) : Prop where
 x : Ext w W
 lo : w.heap.size ≤ gs
 b : Blk_ W gs 123 #[.slice A 3 c, .int .i64 (s.next : Int), .int .i64 (s.rounds : Int)]
 o : W.ownsRow (gs + 1) 46 5 V L.length (L.flatMap encAns)
 a : Safe W gs V (fun W => RArr W [.slice A 3 c] s.a)
 l : ∀ y ∈ L, Safe W gs V (fun W => SlR 1 16 RStr W y.n y.a.names) ∧ Safe W gs V (fun W => SlR 1 8 RInt W y.g y.a.gone)
theorem RunW.up {w W W' : World} {gs : Nat} {A : Option Addr} {c : Nat} {s : Sh} {V : Value} {L : List AnsV} (h : RunW w W gs A c s V L) (k : Ext W W') : RunW w W' gs A c s V L :=
 ⟨h.x.trans k, h.lo, h.b.ext k, own_ext h.o k, h.a.up k, fun y hy => ⟨(h.l y hy).1.up k, (h.l y hy).2.up k⟩⟩
theorem RunW.step {w W W' W2 : World} {gs : Nat} {A : Option Addr} {c m : Nat} {s : Sh} {V V' : Value} {L : List AnsV} {x : ActD} {Vn Vg : Value} {A' : Option Addr} {c' : Nat} (h : RunW w W gs A c s V L)
  (hg : W.grownBy W' (some gs)) (hb : Blk_ W' gs 123 #[.slice A' 3 c', .int .i64 ((actS m s x).1.next : Int), .int .i64 ((actS m s x).1.rounds : Int)]) (ha : (A' = A ∧ c' = c ∧ (actS m s x).1.a = s.a) ∨ Fresh W W' (fun W => RArr W [.slice A' 3 c'] (actS m s x).1.a))
  (hn : Fresh W W' (fun W => SlR 1 16 RStr W Vn (actS m s x).2.names)) (hgo : Fresh W W' (fun W => SlR 1 8 RInt W Vg (actS m s x).2.gone)) (k : Ext W' W2) {W3 : World} (hr : W2.grownBy W3 V.ownBlock) (hV : V'.ownBlock = V.ownBlock ∨ V'.ownBlock = some W2.heap.size)
  (ho : W3.ownsRow (gs + 1) 46 5 V' (L ++ [⟨(actS m s x).2, Vn, Vg⟩] : List AnsV).length ((L ++ [⟨(actS m s x).2, Vn, Vg⟩] : List AnsV).flatMap encAns)) :
  RunW w W3 gs A' c' (actS m s x).1 V' (L ++ [⟨(actS m s x).2, Vn, Vg⟩]) := by
 have hlt : ∀ j, V.ownBlock = some j → gs + 1 ≤ j ∧ j < W.heap.size := fun j hj => h.o.lt j hj
 have hgl : gs < W.heap.size := h.b.lt
 have hs : W.heap.size ≤ W'.heap.size := hg.size
 have hne : ∀ j, V.ownBlock = some j → j ≠ gs := fun j hj => by have := (hlt j hj).1; omega
 refine ⟨((h.x.grown hg (fun q hq => by injection hq with hq; have := h.lo; omega)).trans k).grown hr (fun q hq => by have := (hlt q hq).1; have := h.lo; omega), h.lo, (hb.ext k).grown hr (fun j hj => hne j hj), ho, ?_, ?_⟩
 ·rcases ha with ⟨rfl, rfl, e⟩ | ha
  ·rw [e]; exact ((h.a.act hg).up k).row hr hV
  ·exact ((ha.safe hs hgl (fun j hj => (hlt j hj).2)).up k).row hr hV
 ·intro y hy
  rcases List.mem_append.1 hy with hy | hy
  ·exact ⟨(((h.l y hy).1.act hg).up k).row hr hV, (((h.l y hy).2.act hg).up k).row hr hV⟩
  ·obtain rfl := List.mem_singleton.1 hy
   exact ⟨((hn.safe hs hgl (fun j hj => (hlt j hj).2)).up k).row hr hV, ((hgo.safe hs hgl (fun j hj => (hlt j hj).2)).up k).row hr hV⟩
theorem SlR.box1 {α : Type} {bytes : Nat} {R : Rd α} {w : World} {v : Value} {l : List α} (h : SlR 1 bytes R w v l) {g : Nat} {z : Value} (hz : w.cell? ⟨g, 0, none⟩ = some z) (hne : ∀ u x, R w [u] x → u ≠ z) (hst : ∀ w' cs x, R w cs x → R w' cs x) (u : Value) : SlR 1 bytes R (w.setCell ⟨g, 0, none⟩ u) v l := by
 obtain ⟨A, cap, e, hb, hc, h⟩ := h
 refine ⟨A, cap, e, hb, hc, ?_⟩
 rcases h with h | ⟨b, o, hA, h⟩
 ·exact .inl h
 ·refine .inr ⟨b, o, hA, fun i hi => ?_⟩
  obtain ⟨cs, hl, hcell, hr⟩ := h i hi
  obtain ⟨y, rfl⟩ := List.length_eq_one_iff.1 hl
  refine ⟨[y], hl, fun j hj => ?_, hst _ _ _ hr⟩
  have h0 := hcell j hj
  have hj0 : j = 0 := by omega
  subst hj0
  rw [World.cell?_setCell_other _ _ _ _ (fun e => ?_)]
  ·exact h0
  ·rw [← e] at h0
   rw [hz] at h0
   have : z = y := by simpa using h0
   exact hne y _ hr this.symm
theorem sl_ans {W : World} {base : Nat} {A : Option Addr} {c : Nat} {L : List AnsV} (h : W.ownsRow base 46 5 (.slice A L.length c) L.length (L.flatMap encAns)) (hb : L.length * 80 ≤ 140737488355328) (hR : ∀ y ∈ L, SlR 1 16 RStr W y.n y.a.names ∧ SlR 1 8 RInt W y.g y.a.gone) : SlR 5 80 RAns W (.slice A L.length c) (L.map (·.a)) := by
 have hlen : (L.map (·.a)).length = L.length := List.length_map _
 have h' := h
 rcases h.2 with ⟨hv, h0⟩ | ⟨g, cap, cur, hv, _, hg, hnc, _⟩
 ·have : L = [] := List.eq_nil_of_length_eq_zero h0
  subst this
  exact ⟨A, c, rfl, by decide, Nat.zero_le _, .inl rfl⟩
 ·injection hv with a1 a2 a3
  subst a1
  subst a3
  refine ⟨_, c, by rw [hlen], by rw [hlen]; exact hb, by rw [hlen]; omega, .inr ⟨g, 0, rfl, fun i hi => ?_⟩⟩
  have hi' : i < L.length := by rw [hlen] at hi; exact hi
  refine ⟨encAns L[i], rfl, fun j hj => ?_, ?_⟩
  ·have hc := h'.cellAt (i * 5 + j) (by omega)
   rw [Nat.zero_add, hc, flatMap_at (enc := encAns) (C := 5) (fun _ => rfl) L i j hi' hj]
  ·rw [List.getElem_map]
   exact ⟨_, _, rfl, (hR _ (List.getElem_mem hi')).1, (hR _ (List.getElem_mem hi')).2⟩
theorem run_any (v : Value) (acts : List ActD) (m : Nat) (w : World) (h : SlR 7 80 RAct w v acts) (h16 : 16 ≤ m) (h64 : m ≤ 64) (h2 : m % 2 = 0) (hlen : acts.length ≤ 200) (hf : ∀ k (hk : k < acts.length), ActFine m (runS m (acts.take k) (sh0 m)).2 acts[k]) :
  Calls Tryz.prog 29 #[.int .i64 (m : Int), v] w fun e w' => ∃ A c A' c', e = .returned (.tuple #[.slice A acts.length c, .agg #[.slice A' 3 c'], .int .i64 0]) ∧ Ext w w' ∧ SlR 5 80 RAns w' (.slice A acts.length c) (runS m acts (sh0 m)).1 ∧ RArr w' [.slice A' 3 c'] (runS m acts (sh0 m)).2.a := by
 have HH := Lib.hid h
 have HM := Lib.hid (And.intro h16 (And.intro h64 h2))
 have HLEN := Lib.hid hlen
 have HF := Lib.hid hf
 have hmI : (m : Int) ≤ 64 := by omega
 have hlI : (acts.length : Int) ≤ 200 := by omega
 obtain ⟨Av, cv, rfl, hvb, hvc, hrow⟩ := h
 have HROW := Lib.hid hrow
 clear h16 h64 h2 hlen hf hvb hvc hrow
 go_enter Tryz.func29, Tryz.ntmps29
 go_wp2_with fail
 have hna := new_arr HM.out.1 HM.out.2.1 HM.out.2.2
 refine calls_abs (fun W => Ext w W ∧ Blk_ W w.heap.size 30 #[.slice none 0 0]) ⟨(Ext.refl _).alloc _, Blk_.new _ _ _⟩ ?_
 rintro w0 ⟨hx0, hb0⟩
 obtain ⟨b5, h5⟩ : ∃ b, b = w.heap.size := ⟨_, rfl⟩
 rw [← h5] at hb0 ⊢
 have HX0 := Lib.hid hx0
 have HB0 := Lib.hid hb0
 have HL5 := Lib.hid (show w.heap.size ≤ b5 by omega)
 clear hx0 hb0 h5
 refine (archNew_any (m : Int) w0 (by unfold I64; omega)).mono ?_
 obtain ⟨a, ha⟩ : ∃ a, a = (newArrS (m : Int)).1 := ⟨_, rfl⟩
 have h20 : (newArrS (m : Int)).2 = 0 := by rw [hna]
 have ha3 : a.length = 3 := by rw [ha, hna]; rfl
 rw [h20, ← ha, ha3]
 have HA := Lib.hid ha
 rintro e w1 ⟨A, c, rfl, hx1, ho1⟩
 have HX1 := Lib.hid (HX0.out.trans hx1)
 have HB1 := Lib.hid (HB0.out.ext hx1)
 have HX01 := Lib.hid hx1
 have HO1 := Lib.hid ho1
 have HA3 := Lib.hid ha3
 clear hx1 ho1 hna h20 ha ha3 HX0 HB0
 go_wp2_with fail
 refine wp_abs (fun W => Ext w1 W ∧ Blk_ W (w1.heap.size + 1) 123 #[.slice A 3 c, .int .i64 0, .int .i64 0]) ⟨((Ext.refl _).alloc _).alloc _, Blk_.new1 _ _ _ _⟩ ?_
 rintro W ⟨hxW, hbW⟩
 obtain ⟨gs, hgs⟩ : ∃ g, g = w1.heap.size + 1 := ⟨_, rfl⟩
 have h01 := HX01.out.size
 have hl1 := HX1.out.size
 have hb5l := HB1.out.lt
 rw [← hgs] at hbW ⊢
 have hsa : Safe W gs (.slice none 0 0) (fun W => RArr W [.slice A 3 c] (sh0 m).a) :=
  ⟨w1, w0.heap.size, .inr (by omega), (fun j hj => by cases hj), hxW.size, (fun j _ h2 => Below.block hxW j h2), (by show Fresh w0 w1 (fun W => RArr W [.slice A 3 c] (newArrS (m : Int)).1); rw [← HA.out]; exact fresh_arr HO1.out (by have := HA3.out; omega))⟩
 have HRW := Lib.hid (show RunW w W gs A c (sh0 m) (.slice none 0 0) [] from ⟨HX1.out.trans hxW, by omega, hbW, World.ownsRow_nil _ _ _ _, hsa, fun y hy => by cases hy⟩)
 have HB5 := Lib.hid (HB1.out.ext hxW)
 have HG5 := Lib.hid (show b5 < gs by omega)
 have HGS := Lib.hid (show w.heap.size ≤ gs by omega)
 clear hxW hbW hgs hsa h01 hl1 hb5l HX1 HB1 HX01 HO1 HA HA3
 obtain ⟨i1, hi0, hz0, hz1, hz2⟩ := info_parts info_answer
 have HIE := Lib.hid (And.intro hi0 (And.intro hz0 (And.intro hz1 hz2)))
 clear hi0 hz0 hz1 hz2
 go_loopw [10, 31] (fun pv kv wr => ∃ (k : Nat) (Ao : Option Addr) (co : Nat) (A : Option Addr) (c : Nat) (L : List AnsV), pv = .slice Ao L.length co ∧ kv = .int .i64 k ∧ k ≤ acts.length ∧ L.length = k ∧ L.map (·.a) = (runS m (acts.take k) (sh0 m)).1 ∧ RunW w wr gs A c (runS m (acts.take k) (sh0 m)).2 (.slice Ao L.length co) L ∧ Blk_ wr b5 30 #[.slice none 0 0]) (fun _ kv _ => acts.length - (intOf kv).toNat)
 case atStart => exact ⟨0, none, 0, A, c, [], rfl, rfl, Nat.zero_le _, rfl, rfl, HRW.out, HB5.out⟩
 case round =>
  clear HRW HB5
  obtain ⟨k, Ao, co, A, c, L, rfl, rfl, hk, hLk, hmap, hrw, hb5⟩ := hrel
  obtain ⟨st, hst⟩ : ∃ st, st = runS m (acts.take k) (sh0 m) := ⟨_, rfl⟩
  rw [← hst] at hmap hrw
  have HRW := Lib.hid hrw
  have HB5 := Lib.hid hb5
  have HMAP := Lib.hid hmap
  have HLK := Lib.hid hLk
  have HST := Lib.hid hst
  by_cases hlt : k < acts.length
  ·have hltI : (k : Int) < (acts.length : Int) := by omega
   have hL200 : (L.length : Int) ≤ 200 := by omega
   have HK := Lib.hid hlt
   have hsn := runS_snoc m acts k hlt (sh0 m)
   have hfin := HF.out k hlt
   rcases HROW.out with hnil | ⟨b, o, rfl, hrow⟩
   ·exact absurd hlt (by rw [hnil]; simp)
   obtain ⟨cs, hcl, hcell, hact⟩ := hrow k hlt
   obtain ⟨x, hx⟩ : ∃ x, x = acts[k] := ⟨_, rfl⟩
   rw [← hst] at hsn hfin
   have hact1 : RAct w cs x := by rw [hx]; exact hact
   have hfin1 : ActFine m st.2 x := by rw [hx]; exact hfin
   have hsn1 : (runS m (acts.take (k + 1)) (sh0 m)).1 = st.1 ++ [(actS m st.2 x).2] ∧ (runS m (acts.take (k + 1)) (sh0 m)).2 = (actS m st.2 x).1 := by rw [hx]; exact hsn
   have HSN := Lib.hid hsn1
   have HFIN := Lib.hid hfin1
   have hact0 := hact1
   obtain ⟨vf, rfl, hsf, _⟩ := hact0
   obtain ⟨Af, cf, rfl, _⟩ := hsf
   have HACT := Lib.hid hact1
   have q0 := hrw.x.cell (hcell 0 (by decide))
   have q1 := hrw.x.cell (hcell 1 (by decide))
   have q2 := hrw.x.cell (hcell 2 (by decide))
   have q3 := hrw.x.cell (hcell 3 (by decide))
   have q4 := hrw.x.cell (hcell 4 (by decide))
   have q5 := hrw.x.cell (hcell 5 (by decide))
   have q6 := hrw.x.cell (hcell 6 (by decide))
   simp only [Nat.add_zero] at q0
   clear hact1 hfin1 hsn1 hact hfin hsn hcl hcell hrow hx hst hmap hrw hb5 hk hLk hlt
   go_wp2_with fail
   refine calls_abs (fun W => Ext wr W) ((Ext.refl _).alloc _) ?_
   rintro w2 hx2
   clear q0 q1 q2 q3 q4 q5 q6
   have hw2 := HRW.out.up hx2
   have HB2 := Lib.hid (HB5.out.ext hx2)
   obtain ⟨f1, f2, f3, f4, f5⟩ := HFIN.out
   refine (act_any gs A c m st.2 x (.slice Af x.files.length cf) w2 hw2.b hw2.a.now (RAct.up HACT.out hw2.x) HM.out.1 HM.out.2.1 HM.out.2.2 f1 f2 f3 f4 f5).mono ?_
   clear f1 f2 f3 f4 f5
   rintro e w3 ⟨Vn, Vg, A', c', rfl, hg, hb', ha', hn', hgo'⟩
   obtain ⟨An, cn, en, _⟩ := hn'.now
   obtain ⟨Ag, cg, eg, _⟩ := hgo'.now
   have hown3 := own_grown hw2.o hg (fun g hg' e => by injection e with e; have := (hw2.o.lt g hg').1; omega)
   have HOWN3 := Lib.hid hown3
   have HW2 := Lib.hid hw2
   have HG3 := Lib.hid hg
   have HB3 := Lib.hid hb'
   have HA3 := Lib.hid ha'
   have HN3 := Lib.hid hn'
   have HGO3 := Lib.hid hgo'
   have HEN := Lib.hid en
   have HEG := Lib.hid eg
   have hbb := HB2.out.grown hg (fun j hj => by injection hj with hj; have := HG5.out; omega)
   have HB53 := Lib.hid hbb
   clear hown3 hw2 hg hb' ha' hn' hgo' hx2 hbb HRW HB5 HB2 en eg
   obtain ⟨r, hr⟩ : ∃ r, r = actS m st.2 x := ⟨_, rfl⟩
   rw [← hr]
   have HRR := Lib.hid hr
   clear hr
   go_wp2_with (at_builtin; refine wpList_append_at _ rfl (.tmp 35) (.tmp 39) 27 rfl (gs + 1) 46 i1 (.agg #[.int .i64 0, .string .empty, .slice none 0 0, .int .i64 0, .slice none 0 0]) 5 80 Tryz.underlying27 HIE.out.1 HIE.out.2.1 HIE.out.2.2.1 HIE.out.2.2.2 rfl (by decide) (.slice Ao L.length co) L.length _ rfl (own_ext HOWN3.out ((Ext.refl _).alloc _)) ⟨w3.heap.size, 0, none⟩ 1 1 [.int .i64 r.2.code, .string r.2.data, Vn, .int .i64 r.2.count, Vg] rfl rfl ?c1 ?c2 ?c3 ?c4 ?c5 ?_)
   case c1 =>
    intro j u hu
    rw [Addr.add_lit, Nat.zero_add, (Blk_.new w3 46 _).cell]
    simpa using hu
   case c2 =>
    intro u hu
    simp only [List.mem_cons, List.not_mem_nil, or_false] at hu
    rcases hu with rfl | rfl | rfl | rfl | rfl
    ·rfl
    ·rfl
    ·rw [HEN.out]; rfl
    ·rfl
    ·rw [HEG.out]; rfl
   case c3 => have := HLK.out; have := HK.out; have := HLEN.out; unfold maxLen; omega
   case c4 => have := HLK.out; have := HK.out; have := HLEN.out; omega
   case c5 => have := HB3.out.lt; rw [World.size_alloc]; omega
   intro A4 c4 w4 own4 hg4 hap4
   have hst4 : RunW w w4 gs A' c' r.1 (.slice A4 (L.length + 1) c4) (L ++ [⟨r.2, Vn, Vg⟩]) := by
    have hb3 := HB3.out
    have ha3 := HA3.out
    have hn3 := HN3.out
    have hgo3 := HGO3.out
    have hrr := HRR.out
    subst hrr
    exact RunW.step HW2.out HG3.out hb3 ha3 hn3 hgo3 ((Ext.refl _).alloc _) hg4 (by rw [World.size_alloc]; exact hap4) (by
     have e1 : (L ++ [⟨(actS m st.2 x).2, Vn, Vg⟩] : List AnsV).length = L.length + 1 := by rw [List.length_append]; rfl
     have e2 : (L ++ [⟨(actS m st.2 x).2, Vn, Vg⟩] : List AnsV).flatMap encAns = L.flatMap encAns ++ [.int .i64 (actS m st.2 x).2.code, .string (actS m st.2 x).2.data, Vn, .int .i64 (actS m st.2 x).2.count, Vg] := by rw [List.flatMap_append]; rfl
     rw [e1, e2]
     exact own4)
   have HW4 := Lib.hid hst4
   have HB54 := Lib.hid ((HB53.out.alloc _).grown hg4 (fun j hj e => by have := (HOWN3.out.lt j hj).1; have := HG5.out; omega))
   clear own4 hg4 hap4 hst4
   go_wp2_with fail
   go_roundw
   case rel =>
    have hsn := HSN.out
    have hlk := HLK.out
    refine ⟨k + 1, A4, c4, A', c', L ++ [⟨r.2, Vn, Vg⟩], by rw [List.length_append]; rfl, by first | rfl | go_num, by have := HK.out; omega, by rw [List.length_append, hlk]; rfl, ?_, ?_, HB54.out⟩
    ·rw [hsn.1, List.map_append, HMAP.out, HRR.out]; rfl
    ·rw [hsn.2, List.length_append, ← HRR.out]; exact HW4.out
   case measure => have := HK.out; (simp [intOf]; try omega)
  ·obtain rfl : k = acts.length := by omega
   have htk : acts.take acts.length = acts := List.take_length
   rw [htk] at hst
   have q0 := hrw.b.cell 0
   simp at q0
   have l0 := hrw.b.lt
   have HR := Lib.hid hrw.a.now
   have y5 := hb5.cell 0
   have z5 := hb5.frozen 0
   have l5 := hb5.lt
   simp at y5
   have HSE := Lib.hid hst
   clear hlt hk hst htk hmap hrw hb5 HST hLk
   go_wp2_with fail
   have hl3 : st.2.a.length = 3 := by
    obtain ⟨v', e', h1⟩ := HR.out
    obtain ⟨A0, c0, e0, _⟩ := h1.rowR
    have e2 : (Value.slice A 3 c) = v' := by simpa using e'
    rw [← e2] at e0
    injection e0 with _ e3 _
    exact e3.symm
   refine (arrCopy_any [.slice A 3 c] st.2.a wr HR.out).mono ?_
   rw [hl3]
   rintro e w5 ⟨A9, c9, rfl, hx5, ho5⟩
   have y5' := hx5.cell y5
   have hb59 := HB5.out.ext hx5
   have z5' := hb59.frozen 0
   have HX5 := Lib.hid hx5
   have HO5 := Lib.hid ho5
   have HB59 := Lib.hid hb59
   have HW3 := Lib.hid hl3
   have L5 := Lib.hid l5
   clear hx5 ho5 hb59 y5 z5 l5 q0 l0 hl3
   go_wp2_with fail
   refine bodyPost_ret (res_tmp_cell_tmp rfl rfl (HB59.out.set 0 (.slice A9 3 c9)) Tryz.underlying30 rfl (by kernel_rfl)) rfl ?_
   have hw5 := HRW.out.up HX5.out
   have hc5 := HB59.out.cell 0
   simp at hc5
   refine ⟨Ao, co, A9, c9, ?_, ?_, ?_, ?_⟩
   ·rw [← HLK.out]; rfl
   ·exact hw5.x.setCell (p := ⟨b5, 0, none⟩) HL5.out _
   ·rw [← HSE.out, ← HMAP.out, ← HLK.out]
    refine sl_ans (own_grown hw5.o (setRow_by _ b5 0 _) (fun g hg e => by injection e with e; have := (hw5.o.lt g hg).1; have := HG5.out; omega)) (by have := HLK.out; have := HLEN.out; omega) (fun y hy => ⟨?_, ?_⟩)
    ·exact SlR.box1 (hw5.l y hy).1.now hc5 (fun u x hr => by rw [hr.val]; exact fun e => by cases e) (fun _ _ _ h => h) _
    ·exact SlR.box1 (hw5.l y hy).2.now hc5 (fun u x hr => by rw [hr.bd.1]; exact fun e => by cases e) (fun _ _ _ h => h) _
   ·rw [← HSE.out]
    exact (HO5.out.far (p := ⟨b5, 0, none⟩) L5.out _).rarr (by have := HW3.out; omega)
theorem runRange_any (v : Value) (w : World) :
  Calls Tryz.prog 29 #[.int .i64 15, v] w fun e w' => e = .returned (.tuple #[.slice none 0 0, .agg #[.slice none 0 0], .int .i64 2]) ∧ Ext w w' := by
 go_enter Tryz.func29, Tryz.ntmps29
 go_wp2_with fail
 refine calls_abs (fun W => Ext w W ∧ Blk_ W w.heap.size 30 #[.slice none 0 0]) ⟨(Ext.refl _).alloc _, Blk_.new _ _ _⟩ ?_
 rintro w0 ⟨hx0, hb0⟩
 obtain ⟨b5, h5⟩ : ∃ b, b = w.heap.size := ⟨_, rfl⟩
 rw [← h5] at hb0 ⊢
 have HX0 := Lib.hid hx0
 have HB0 := Lib.hid hb0
 have HL5 := Lib.hid (show w.heap.size ≤ b5 by omega)
 clear hx0 hb0 h5
 refine (archNew_any 15 w0 (by unfold I64; omega)).mono ?_
 have e15 : newArrS 15 = ([], 2) := by unfold newArrS; rw [if_neg (by decide)]
 rw [e15]
 rintro e w1 ⟨A, c, rfl, hx1, ho1⟩
 have y5 := (HB0.out.ext hx1).cell 0
 have z5 := (HB0.out.ext hx1).frozen 0
 have l5 := (HB0.out.ext hx1).lt
 simp at y5
 have HX1 := Lib.hid (HX0.out.trans hx1)
 have HB1 := Lib.hid (HB0.out.ext hx1)
 clear hx1 ho1 HX0 HB0 e15
 go_wp2_with fail
 refine bodyPost_ret (res_tmp_cell_tmp rfl rfl (by first | exact (HB1.out.set 0 (.slice none 0 0)).alloc _ | exact HB1.out.set 0 (.slice none 0 0)) Tryz.underlying30 rfl (by kernel_rfl)) rfl ?_
 exact ⟨rfl, by first | exact (HX1.out.setCell (p := ⟨b5, 0, none⟩) HL5.out _).alloc _ | exact HX1.out.setCell (p := ⟨b5, 0, none⟩) HL5.out _⟩
theorem runSize_any (Av : Option Addr) (cv m : Nat) (w : World) (h16 : 16 ≤ m) (h64 : m ≤ 64) (h2 : m % 2 = 0) :
  Calls Tryz.prog 29 #[.int .i64 (m : Int), .slice Av 201 cv] w fun e w' => e = .returned (.tuple #[.slice none 0 0, .agg #[.slice none 0 0], .int .i64 1]) ∧ Ext w w' := by
 have hmI : (m : Int) ≤ 64 := by omega
 go_enter Tryz.func29, Tryz.ntmps29
 go_wp2_with fail
 have hna := new_arr h16 h64 h2
 refine calls_abs (fun W => Ext w W ∧ Blk_ W w.heap.size 30 #[.slice none 0 0]) ⟨(Ext.refl _).alloc _, Blk_.new _ _ _⟩ ?_
 rintro w0 ⟨hx0, hb0⟩
 obtain ⟨b5, h5⟩ : ∃ b, b = w.heap.size := ⟨_, rfl⟩
 rw [← h5] at hb0 ⊢
 have HX0 := Lib.hid hx0
 have HB0 := Lib.hid hb0
 have HL5 := Lib.hid (show w.heap.size ≤ b5 by omega)
 clear hx0 hb0 h5
 refine (archNew_any (m : Int) w0 (by unfold I64; omega)).mono ?_
 have h20 : (newArrS (m : Int)).2 = 0 := by rw [hna]
 obtain ⟨a, ha⟩ : ∃ a, a = (newArrS (m : Int)).1 := ⟨_, rfl⟩
 rw [h20, ← ha]
 rintro e w1 ⟨A, c, rfl, hx1, ho1⟩
 have y5 := (HB0.out.ext hx1).cell 0
 have z5 := (HB0.out.ext hx1).frozen 0
 have l5 := (HB0.out.ext hx1).lt
 simp at y5
 have HX1 := Lib.hid (HX0.out.trans hx1)
 have HB1 := Lib.hid (HB0.out.ext hx1)
 clear hx1 ho1 HX0 HB0 hna h20 ha
 go_wp2_with fail
 refine bodyPost_ret (res_tmp_cell_tmp rfl rfl (by first | exact (HB1.out.set 0 (.slice none 0 0)).alloc _ | exact HB1.out.set 0 (.slice none 0 0)) Tryz.underlying30 rfl (by kernel_rfl)) rfl ?_
 exact ⟨rfl, by first | exact (HX1.out.setCell (p := ⟨b5, 0, none⟩) HL5.out _).alloc _ | exact HX1.out.setCell (p := ⟨b5, 0, none⟩) HL5.out _⟩

def addAct (L : List Fil) : ActD := ⟨1, L, .empty, 0, 0, 0, 0⟩
def GroupsOk : Nat → List (List Fil) → Prop
 | _, [] => True
 | n, L :: l => FilesOk n L ∧ 1 ≤ L.length ∧ L.length ≤ 2 ∧ GroupsOk (n + L.length) l
theorem GroupsOk.snoc {L : List Fil} : ∀ {Ls : List (List Fil)} {n : Nat}, GroupsOk n Ls → FilesOk (n + Ls.flatten.length) L → 1 ≤ L.length → L.length ≤ 2 → GroupsOk n (Ls ++ [L])
 | [], n, _, h, h1, h2 => ⟨by simpa using h, h1, h2, trivial⟩
 | K :: Ls, n, h, hL, h1, h2 => ⟨h.1, h.2.1, h.2.2.1, GroupsOk.snoc h.2.2.2 (by rw [List.flatten_cons, List.length_append, ← Nat.add_assoc] at hL; exact hL) h1 h2⟩
def hurtAct (x : HA) : ActD := ⟨x.kind, [], .empty, x.d, x.n, x.at_, x.by_⟩
structure ActV where
 a : ActD
 A : Option Addr
 c : Nat
def ActV.f (x : ActV) : Value := .slice x.A x.a.files.length x.c
def encActV (x : ActV) : List Value := [.int .i64 x.a.kind, x.f, .string x.a.name, .int .i64 x.a.d, .int .i64 x.a.n, .int .i64 x.a.at_, .int .i64 x.a.by_]
def RActV : Rd ActV := fun _ cs x => cs = encActV x ∧ x.a.name.size ≤ 140737488355328 ∧ I64 x.a.kind ∧ I64 x.a.d ∧ I64 x.a.n ∧ I64 x.a.at_ ∧ I64 x.a.by_
theorem encActV_ok : Enc 7 RActV encActV := ⟨fun _ => rfl, fun _ _ _ h => h.1, fun _ _ _ _ h => h, fun x u h => by
 simp only [encActV, ActV.f, List.mem_cons, List.not_mem_nil, or_false] at h
 rcases h with h | h | h | h | h | h | h <;> subst h <;> rfl⟩
theorem RActV.stays : Stays RActV := fun _ _ _ _ h _ => h
def ActsR (w : World) (v : Value) (L : List ActV) : Prop := SlR 7 80 RActV w v L ∧ ∀ y ∈ L, SlR 2 32 RFil w y.f y.a.files
theorem ActsR.acts {w : World} {v : Value} {L : List ActV} (h : ActsR w v L) : SlR 7 80 RAct w v (L.map (·.a)) := by
 obtain ⟨⟨A, cap, hv, hb, hc, hl⟩, hf⟩ := h
 refine ⟨A, cap, by rw [List.length_map]; exact hv, by rw [List.length_map]; exact hb, by rw [List.length_map]; exact hc, ?_⟩
 rcases hl with hl | ⟨b, o, hA, hl⟩
 ·exact .inl (by rw [hl]; rfl)
 ·refine .inr ⟨b, o, hA, fun i hi => ?_⟩
  have hi' : i < L.length := by simpa using hi
  obtain ⟨cs, h1, h2, h3, h4⟩ := hl i hi'
  refine ⟨cs, h1, h2, L[i].f, ?_, ?_, ?_⟩
  ·rw [h3, List.getElem_map]; rfl
  ·rw [List.getElem_map]; exact hf _ (List.getElem_mem hi')
  ·rw [List.getElem_map]; exact h4
section
variable {P : Program} (w : World)
theorem run_append_own_empty (base : Nat) (t ty e : TypeId) (i : TypeInfo) (size c : Nat) (ht : P.underlying t = some (.slice e)) (hi : P.info? e = some i)
  (v : Value) (n : Nat) (xs : List Value) (hown : w.ownsRow base e size v n xs) :
  (Builtin.append_ #[t, t] ty #[v, .slice none 0 c]).run P w = .ok v w := by
 rcases hown.2 with ⟨rfl, rfl⟩ | ⟨g, cap, cur, rfl, _, _, hnc, _⟩
 ·simp [Builtin.append_, run_underlying ht, sizeOf, typeInfo, hi, Builtin.lenOf, Builtin.firstCells]
 ·simp [Builtin.append_, run_underlying ht, sizeOf, typeInfo, hi, Builtin.lenOf, Builtin.firstCells, hnc, storeCells]
theorem wp_slice_from {o : Oper} {a : Act} {K : Act → World → Prop} {Q : Exit → Act → World → Prop} (x y : Operand) (t : TypeId) (ho : o.op = .slice t x (some y) none none) (C : Nat)
  (e : TypeId) (i : TypeInfo) (ht : P.underlying t = some (.slice e)) (hi : P.info? e = some i) (hC : i.size = C) (A : Option Addr) (n c k : Nat) (hx : a.eval x = .slice A n c) (hy : a.eval y = .int .i64 (k : Int)) (hk : k ≤ n) (A' : Option Addr) (c' : Nat) (hA : (if c = k then A else A.map (·.add (k * C))) = A') (hc : c - k = c')
  (h : K (a.put o.dst (.slice A' (n - k) c')) w) : o.wp P a w K Q := by
 unfold Oper.wp execOp
 have he : P.elem t = e := by unfold Program.elem; rw [ht]
 have ht' : P.underlying t = some (.slice (P.elem t)) := by rw [he]; exact ht
 have hz : (sizeOf (P.elem t)).run P w = .ok C w := by rw [he]; simp [sizeOf, typeInfo, hi, hC]
 have hr := run_slice_l (P := P) (w := w) t A n c ht' .i64 (k : Int) (by omega) (by omega)
 simp only [ho, Option.map, hx, hy, Sem.run_bind, Sem.run_pure, Result.andThen_ok, run_sliceAt_slice w t _ _ _ _ ht', hr, hz, sliced, Int.toNat_natCast]
 subst hA; subst hc
 exact h
theorem wpList_slice_from {ops : Array Oper} {rest : List Oper} {o : Oper} {a : Act} {Q : Exit → Act → World → Prop} (hgd : o.guard = none) (x y : Operand) (t : TypeId) (ho : o.op = .slice t x (some y) none none) (C : Nat)
  (e : TypeId) (i : TypeInfo) (ht : P.underlying t = some (.slice e)) (hi : P.info? e = some i) (hC : i.size = C) (A : Option Addr) (n c k : Nat) (hx : a.eval x = .slice A n c) (hy : a.eval y = .int .i64 (k : Int)) (hk : k ≤ n) (A' : Option Addr) (c' : Nat) (hA : (if c = k then A else A.map (·.add (k * C))) = A') (hc : c - k = c')
  (h : wpList P ops Q rest (a.put o.dst (.slice A' (n - k) c')) w) : wpList P ops Q (o :: rest) a w :=
 wpList_plain hgd fun _ hK => wp_slice_from w x y t ho C e i ht hi hC A n c k hx hy hk A' c' hA hc (hK _ _ h)
theorem wp_append_onto {α : Type} {C bytes : Nat} {R : Rd α} {enc : α → List Value} (he : Enc C R enc) (hC : 0 < C) {o : Oper} {a : Act} {K : Act → World → Prop} {Q : Exit → Act → World → Prop} (s x : Operand) (t : TypeId)
  (ho : o.op = .call { callee := .builtin .append, args := #[s, x], argTypes := #[t, t] })
  (base : Nat) (e : TypeId) (i : TypeInfo) (z : Value) (ht : P.underlying t = some (.slice e)) (hi : P.info? e = some i) (hz : i.zero = some z)
  (hsize : i.size = C) (hby : i.bytes = bytes) (hzs : z.cells.size = C) (v0 : Value) (n : Nat) (xs : List Value) (hs : a.eval s = v0) (hown : w.ownsRow base e C v0 n xs)
  (v : Value) (l : List α) (hx : a.eval x = v) (hv : SlR C bytes R w v l) (h63 : n + l.length ≤ maxLen) (hbytes : (n + l.length) * bytes ≤ 140737488355328) (hbase : base ≤ w.heap.size)
  (h : ∀ A' c' w', w'.ownsRow base e C (.slice A' (n + l.length) c') (n + l.length) (xs ++ l.flatMap enc) → w.grownBy w' v0.ownBlock → ((Value.slice A' (n + l.length) c').ownBlock = v0.ownBlock ∨ (Value.slice A' (n + l.length) c').ownBlock = some w.heap.size) → K (a.put o.dst (.slice A' (n + l.length) c')) w') : o.wp P a w K Q := by
 obtain ⟨A, cap, rfl, hb, hc, hl⟩ := hv.cells he hC
 clear hv
 cases A with
 | none =>
  have hl0 : l = [] := by rcases hl with h | ⟨b, o, h, _⟩; exact h; cases h
  subst hl0
  have hrun := run_append_own_empty (P := P) w base t o.type e i C cap ht hi v0 n xs hown
  obtain ⟨A', c', rfl⟩ := own_slice hown
  unfold Oper.wp execOp
  simp only [ho, resolve, invoke, builtin, Sem.run_bind, Sem.run_pure, Result.andThen_ok, List.map_toArray, List.map_cons, List.map_nil, hs, hx, List.length_nil, hrun]
  exact h A' c' w (by simpa using hown) (World.grownBy.refl _ _) (.inl rfl)
 | some ad =>
  have hcells : ∀ (j : Nat) (u : Value), (l.flatMap enc)[j]? = some u → w.cell? (ad.add j) = some u := by
   rcases hl with h | ⟨b, o, h, hc, _⟩
   ·subst h; intro j u hu; simp at hu
   ·cases h; exact hc
  exact wp_append_at w s x t ho base e i z C bytes ht hi hz hsize hby hzs hC v0 n xs hs hown ad l.length cap (l.flatMap enc) hx (length_flatMap he.len l) hcells
   (fun u hu => by obtain ⟨y, _, hy⟩ := List.mem_flatMap.1 hu; exact he.one y u hy) h63 hbytes hbase h
theorem wpList_append_onto {α : Type} {C bytes : Nat} {R : Rd α} {enc : α → List Value} (he : Enc C R enc) (hC : 0 < C) {ops : Array Oper} {rest : List Oper} {o : Oper} {a : Act} {Q : Exit → Act → World → Prop} (hgd : o.guard = none) (s x : Operand) (t : TypeId)
  (ho : o.op = .call { callee := .builtin .append, args := #[s, x], argTypes := #[t, t] })
  (base : Nat) (e : TypeId) (i : TypeInfo) (z : Value) (ht : P.underlying t = some (.slice e)) (hi : P.info? e = some i) (hz : i.zero = some z)
  (hsize : i.size = C) (hby : i.bytes = bytes) (hzs : z.cells.size = C) (v0 : Value) (n : Nat) (xs : List Value) (hs : a.eval s = v0) (hown : w.ownsRow base e C v0 n xs)
  (v : Value) (l : List α) (hx : a.eval x = v) (hv : SlR C bytes R w v l) (h63 : n + l.length ≤ maxLen) (hbytes : (n + l.length) * bytes ≤ 140737488355328) (hbase : base ≤ w.heap.size)
  (h : ∀ A' c' w', w'.ownsRow base e C (.slice A' (n + l.length) c') (n + l.length) (xs ++ l.flatMap enc) → w.grownBy w' v0.ownBlock → ((Value.slice A' (n + l.length) c').ownBlock = v0.ownBlock ∨ (Value.slice A' (n + l.length) c').ownBlock = some w.heap.size) → wpList P ops Q rest (a.put o.dst (.slice A' (n + l.length) c')) w') : wpList P ops Q (o :: rest) a w :=
 wpList_plain hgd fun _ hK => wp_append_onto w he hC s x t ho base e i z ht hi hz hsize hby hzs v0 n xs hs hown v l hx hv h63 hbytes hbase fun A' c' w' h2 h3 h4 => hK _ _ (h A' c' w' h2 h3 h4)
end
theorem clone_acts (v : Value) (w : World) (l : List ActV) (h : SlR 7 80 RActV w v l) :
  Calls Tryz.prog 30 #[v] w fun e w' => ∃ A' c', e = .returned (.slice A' l.length c') ∧ Ext w w' ∧ w'.ownsRow w.heap.size 39 7 (.slice A' l.length c') l.length (l.flatMap encActV) := by
 obtain ⟨A, cap, rfl, hb, hc, hl⟩ := h.cells encActV_ok (by decide)
 clear h
 obtain ⟨i0, hi, hz0, hz1, hz2⟩ := info_parts info_act
 cases A with
 | none =>
  have hl0 : l = [] := by rcases hl with h | ⟨b, o, h, _⟩; exact h; cases h
  subst hl0
  clear hl hi hz0 hz1 hz2
  go_enter Tryz.func30, Tryz.ntmps30
  go_wp2
  go_ret
  exact ⟨none, 0, rfl, Ext.refl _, World.ownsRow_nil _ _ _ _⟩
 | some a =>
  have hcells : ∀ (j : Nat) (u : Value), (l.flatMap encActV)[j]? = some u → w.cell? (a.add j) = some u := by
   rcases hl with h | ⟨b, o, h, hc, _⟩
   ·subst h; intro j u hu; simp at hu
   ·cases h; exact hc
  have HI := Lib.hid hi
  have H0 := Lib.hid hz0
  have H1 := Lib.hid hz1
  have H2 := Lib.hid hz2
  have HC := Lib.hid hcells
  clear hl hi hz0 hz1 hz2 hcells
  go_enter Tryz.func30, Tryz.ntmps30
  go_wp2_with (at_builtin; refine wpList_append_own _ rfl _ _ 23 rfl w.heap.size 39 i0 (.agg #[.int .i64 0, .slice none 0 0, .string .empty, .int .i64 0, .int .i64 0, .int .i64 0, .int .i64 0]) 7 80 Tryz.underlying23 HI.out H0.out H1.out H2.out rfl (by decide) _ _ _ rfl (World.ownsRow_made w #[] 0 (Nat.le_refl _) (by decide) rfl) a l.length cap (l.flatMap encActV) rfl ?c1 ?c2 ?c3 ?c4 ?c5 ?c6 ?_)
  case c1 => exact length_flatMap encActV_ok.len l
  case c2 => exact fun j u hu => (Ext.alloc (Ext.refl w) _).cell (HC.out j u hu)
  case c3 => exact fun u hu => by obtain ⟨x, _, hx⟩ := List.mem_flatMap.1 hu; exact encActV_ok.one x u hx
  case c4 => unfold maxLen; omega
  case c5 => omega
  case c6 => simp
  intro v' w' hown hg _
  have HO := Lib.hid hown
  have HG := Lib.hid hg
  clear hown hg
  go_wp2
  go_ret
  obtain ⟨A', c', hv⟩ := own_slice HO.out
  refine ⟨A', c', ret_eq hv, ((Ext.refl w).alloc _).grown HG.out (fun k hk => ?_), ?_⟩
  ·simp [Value.ownBlock] at hk; omega
  ·rw [← hv]; exact HO.out
theorem SlR.drop {α : Type} {C bytes : Nat} {R : Rd α} {w : World} {A : Option Addr} {c : Nat} {l : List α} (h : SlR C bytes R w (.slice A l.length c) l) (k : Nat) (hk : k ≤ l.length) :
  SlR C bytes R w (.slice (if c = k then A else A.map (·.add (k * C))) (l.length - k) (c - k)) (l.drop k) := by
 obtain ⟨A', cap, hv, hb, hc, h⟩ := h
 injection hv with h1 h2 h3
 subst h1; subst h3
 refine ⟨_, c - k, by rw [List.length_drop], by rw [List.length_drop]; have := Nat.mul_le_mul_right bytes (Nat.sub_le l.length k); omega, by rw [List.length_drop]; omega, ?_⟩
 by_cases hlk : l.drop k = []
 ·exact .inl hlk
 ·have hlt : k < l.length := by
   rcases Nat.lt_or_ge k l.length with h | h
   ·exact h
   ·exact absurd (List.drop_eq_nil_of_le h) hlk
  rcases h with h | ⟨b, o, hA, h⟩
  ·subst h; exact absurd hlt (Nat.not_lt_zero _)
  ·subst hA
   refine .inr ⟨b, o + k * C, ?_, fun i hi => ?_⟩
   ·rw [if_neg (by omega)]
    show some ((⟨b, o, none⟩ : Addr).add (k * C)) = _
    rw [Addr.add_lit]
   ·rw [List.length_drop] at hi
    obtain ⟨cs, c1, c2, c3⟩ := h (k + i) (by omega)
    refine ⟨cs, c1, fun j hj => ?_, by rw [List.getElem_drop]; exact c3⟩
    rw [← c2 j hj, Nat.add_mul]
    congr 2
    omega
theorem SlR.drop' {α : Type} {C bytes : Nat} {R : Rd α} {w : World} {A : Option Addr} {n c : Nat} {l : List α} (h : SlR C bytes R w (.slice A n c) l) (k : Nat) (hk : k ≤ l.length) (hn : n = l.length) :
  SlR C bytes R w (.slice (if c = k then A else A.map (·.add (k * C))) (n - k) (c - k)) (l.drop k) := by subst hn; exact h.drop k hk
def FilesIn (W : World) (va vf : Value) (y : ActV) : Prop := SlR 2 32 RFil W y.f y.a.files ∧ (∀ g, va.ownBlock = some g → Av g y.f) ∧ (∀ g, vf.ownBlock = some g → Av g y.f)
theorem FilesIn.rowA {W W' : World} {va va' vf : Value} {y : ActV} (h : FilesIn W va vf y) (hg : W.grownBy W' va.ownBlock) (hV : va'.ownBlock = va.ownBlock ∨ va'.ownBlock = some W.heap.size) : FilesIn W' va' vf y := by
 refine ⟨h.1.grown encFil_ok hg h.2.1, fun g hg' => ?_, h.2.2⟩
 rcases hV with e | e
 ·exact h.2.1 g (by rw [← e]; exact hg')
 ·rw [e] at hg'; injection hg' with hg'; exact h.1.avoids (by decide) (by omega)
theorem FilesIn.rowF {W W' : World} {va vf vf' : Value} {y : ActV} (h : FilesIn W va vf y) (hg : W.grownBy W' vf.ownBlock) (hV : vf'.ownBlock = vf.ownBlock ∨ vf'.ownBlock = some W.heap.size) : FilesIn W' va vf' y := by
 refine ⟨h.1.grown encFil_ok hg h.2.2, h.2.1, fun g hg' => ?_⟩
 rcases hV with e | e
 ·exact h.2.2 g (by rw [← e]; exact hg')
 ·rw [e] at hg'; injection hg' with hg'; exact h.1.avoids (by decide) (by omega)
theorem FilesIn.ext {W W' : World} {va vf : Value} {y : ActV} (h : FilesIn W va vf y) (k : Ext W W') : FilesIn W' va vf y := ⟨h.1.ext RFil.stays k, h.2.1, h.2.2⟩
theorem info_raw : (Tryz.prog.info? 82).map (fun i => (i.zero, i.size, i.bytes)) = some (some (.agg #[.int .i64 0, .int .i64 0, .int .i64 0, .int .i64 0]), 4, 32) := by kernel_rfl
def slLen : Value → Nat
 | .slice _ n _ => n
 | _ => 0
structure AddsW (w W : World) (va vf : Value) (La : List ActV) (Ls : List (List Fil)) : Prop where
 x : Ext w W
 a : W.ownsRow w.heap.size 39 7 va La.length (La.flatMap encActV)
 f : W.ownsRow w.heap.size 57 2 vf Ls.flatten.length (Ls.flatten.flatMap encFil)
 ne : ∀ g, va.ownBlock = some g → vf.ownBlock ≠ some g
 y : ∀ y ∈ La, FilesIn W va vf y
 e : La.map (·.a) = Ls.map addAct
 g : GroupsOk 0 Ls
theorem AddsW.up {w W W' : World} {va vf : Value} {La : List ActV} {Ls : List (List Fil)} (h : AddsW w W va vf La Ls) (k : Ext W W') : AddsW w W' va vf La Ls :=
 ⟨h.x.trans k, own_ext h.a k, own_ext h.f k, h.ne, fun y hy => (h.y y hy).ext k, h.e, h.g⟩
theorem AddsW.step {w W3 W4 W5 W6 : World} {va vf va' vf' : Value} {La : List ActV} {Ls : List (List Fil)} (h : AddsW w W3 va vf La Ls) {L : List Fil} {A : Option Addr} {c : Nat} (hy : FilesIn W3 va vf ⟨addAct L, A, c⟩) (hL : FilesOk Ls.flatten.length L) (h1 : 1 ≤ L.length) (h2 : L.length ≤ 2)
  (k : Ext W3 W4) (g1 : W4.grownBy W5 va.ownBlock) (hV1 : va'.ownBlock = va.ownBlock ∨ va'.ownBlock = some W4.heap.size) (o1 : W5.ownsRow w.heap.size 39 7 va' (La.length + 1) (La.flatMap encActV ++ encActV ⟨addAct L, A, c⟩))
  (g2 : W5.grownBy W6 vf.ownBlock) (hV2 : vf'.ownBlock = vf.ownBlock ∨ vf'.ownBlock = some W5.heap.size) (o2 : W6.ownsRow w.heap.size 57 2 vf' (Ls.flatten.length + L.length) (Ls.flatten.flatMap encFil ++ L.flatMap encFil)) :
  AddsW w W6 va' vf' (La ++ [⟨addAct L, A, c⟩]) (Ls ++ [L]) := by
 have hfl : ∀ g, vf.ownBlock = some g → w.heap.size ≤ g ∧ g < W3.heap.size := fun g hg => h.f.lt g hg
 have hal : ∀ g, va.ownBlock = some g → w.heap.size ≤ g ∧ g < W3.heap.size := fun g hg => h.a.lt g hg
 have hs := k.size
 have hs1 := g1.size
 have hne : ∀ g, va'.ownBlock = some g → vf.ownBlock ≠ some g := by
  intro g hg e
  rcases hV1 with e1 | e1
  ·exact h.ne g (by rw [← e1]; exact hg) e
  ·rw [e1] at hg; injection hg with hg; have := (hfl g e).2; omega
 refine ⟨((h.x.trans k).grown g1 (fun g hg => (hal g hg).1)).grown g2 (fun g hg => (hfl g hg).1), ?_, ?_, ?_, ?_, ?_, ?_⟩
 ·rw [List.length_append, List.flatMap_append]
  refine own_grown ?_ g2 (fun g hg e => hne g hg e)
  simpa using o1
 ·rw [List.flatten_append, List.length_append, List.flatMap_append]
  simpa using o2
 ·intro g hg e
  rcases hV2 with e2 | e2
  ·exact hne g hg (by rw [← e2]; exact e)
  ·rw [e2] at e; injection e with e; have := (o1.lt g hg).2; omega
 ·intro y hm
  have : FilesIn W3 va vf y := by
   rcases List.mem_append.1 hm with hm | hm
   ·exact h.y y hm
   ·obtain rfl := List.mem_singleton.1 hm; exact hy
  exact ((this.ext k).rowA g1 hV1).rowF g2 hV2
 ·rw [List.map_append, List.map_append, h.e]; rfl
 ·exact h.g.snoc (by rw [Nat.zero_add]; exact hL) h1 h2
theorem adds_any (v : Value) (l : List Raw4) (most : Nat) (w : World) (h : SlR 4 32 RRaw w v l) (hm : most ≤ 10) (hev : most % 2 = 0) (ht : Tab w) :
  Calls Tryz.prog 13 #[v, .int .i64 (most : Int)] w fun e w' => ∃ A c A' c' La Ls, e = .returned (.tuple #[.slice A La.length c, .slice A' Ls.flatten.length c']) ∧ AddsW w w' (.slice A La.length c) (.slice A' Ls.flatten.length c') La Ls ∧ Ls.flatten.length ≤ most := by
 have HTAB := Lib.hid ht
 obtain ⟨Av0, cv0, rfl, hlb, hlc, _⟩ := h.rowE encRw_ok
 have HH := Lib.hid h
 have HM := Lib.hid (And.intro hm hev)
 obtain ⟨i1, hi0, hz0, hz1, hz2⟩ := info_parts info_act
 have HIA := Lib.hid (And.intro hi0 (And.intro hz0 (And.intro hz1 hz2)))
 obtain ⟨i2, hj0, hy0, hy1, hy2⟩ := info_parts info_file
 have HIF := Lib.hid (And.intro hj0 (And.intro hy0 (And.intro hy1 hy2)))
 obtain ⟨i3, hr0, _, hr1, _⟩ := info_parts info_raw
 have HIR := Lib.hid (And.intro hr0 hr1)
 have hmI : (most : Int) ≤ 10 := by omega
 have hlI : (l.length : Int) ≤ 140737488355328 := by omega
 have hmN : most ≤ 10 := hm
 clear h ht hev hlb hlc hi0 hz0 hz1 hz2 hj0 hy0 hy1 hy2 hm hr0 hr1
 go_enter Tryz.func13, Tryz.ntmps13
 go_wp2_with fail
 go_loopw [0, 6, 7] (fun lv av fv wr => ∃ (p : Nat) (Ar : Option Addr) (cr : Nat) (A : Option Addr) (c : Nat) (A' : Option Addr) (c' : Nat) (La : List ActV) (Ls : List (List Fil)), lv = .slice Ar (l.length - p) cr ∧ av = .slice A La.length c ∧ fv = .slice A' Ls.flatten.length c' ∧
  p ≤ l.length ∧ SlR 4 32 RRaw w (.slice Ar (l.length - p) cr) (l.drop p) ∧ AddsW w wr (.slice A La.length c) (.slice A' Ls.flatten.length c') La Ls ∧ Ls.flatten.length ≤ most ∧ La.length ≤ Ls.flatten.length ∧ (Ls.flatten.length % 2 = 0 ∨ p = l.length) ∧ Ls.flatten.length ≤ p) (fun lv _ _ _ => slLen lv)
 case atStart => exact ⟨0, Av0, cv0, none, 0, none, 0, [], [], by simp, rfl, rfl, Nat.zero_le _, by simpa using HH.out, ⟨Ext.refl _, World.ownsRow_nil _ _ _ _, World.ownsRow_nil _ _ _ _, (fun g hg => by cases hg), (fun y hy => by cases hy), rfl, trivial⟩, Nat.zero_le _, Nat.zero_le _, .inl rfl, Nat.le_refl _⟩
 case round =>
  obtain ⟨p, Ar, cr, A, c, A', c', La, Ls, rfl, rfl, rfl, hp, hl, hw, hle, hla, hpar, hfp⟩ := hrel
  have HL := Lib.hid hl
  have HW := Lib.hid hw
  have HPAR := Lib.hid hpar
  have HLA := Lib.hid (show La.length ≤ 10 by omega)
  have HLN := Lib.hid hla
  clear hl hw hpar hla
  obtain ⟨q, hq⟩ : ∃ q, q = l.length - p := ⟨_, rfl⟩
  have HQ := Lib.hid (And.intro hq (And.intro hp hfp))
  rw [← hq] at HL ⊢
  have hqI : (q : Int) ≤ 140737488355328 := by omega
  obtain ⟨n, hn⟩ : ∃ n, n = Ls.flatten.length := ⟨_, rfl⟩
  rw [← hn] at HW HPAR hle ⊢
  have HN := Lib.hid hn
  have hnI : (n : Int) ≤ 10 := by omega
  clear hq hp hfp hn
  by_cases h1 : n < most
  ·have h1I : (n : Int) < (most : Int) := by omega
   by_cases h2 : 0 < q
   ·have h2I : (0 : Int) < (q : Int) := by omega
    have hn2 : n + 2 ≤ 10 := by have := HPAR.out; have := HQ.out; have := HM.out; omega
    have hn2m : n + 2 ≤ most := by have := HPAR.out; have := HQ.out; have := HM.out; omega
    go_wp2_with fail
    have hfa := files_any (.slice Ar q cr) (l.drop p) n 2 wr (HL.out.ext RRaw.stays HW.out.x) hn2 (HTAB.out.ext HW.out.x)
    refine hfa.mono ?_
    clear hfa
    rintro e w3 ⟨A3, c3, L, rfl, hx3, ho3, hl3, hok⟩
    have hlq2 : L.length = min 2 q := by rw [hl3, List.length_drop, HQ.out.1]
    have HLQ := Lib.hid hlq2
    have hlqI : (L.length : Int) ≤ (q : Int) := by omega
    have hl2I : (L.length : Int) ≤ 2 := by omega
    have HW3 := Lib.hid (show AddsW w w3 (.slice A La.length c) (.slice A' n c') La Ls from HW.out.up hx3)
    have HX3 := Lib.hid hx3
    have HO3 := Lib.hid ho3
    have HOK := Lib.hid hok
    have hlq : L.length ≤ q := by omega
    clear hx3 ho3 hl3 hok hlq2
    have hsr := HL.out.drop' L.length (by rw [List.length_drop]; have := HLQ.out; have := HQ.out; omega) (by rw [List.length_drop]; exact HQ.out.1)
    obtain ⟨A5, hA5⟩ : ∃ A5, (if cr = L.length then Ar else Ar.map (·.add (L.length * 4))) = A5 := ⟨_, rfl⟩
    obtain ⟨c5, hc5⟩ : ∃ c5, cr - L.length = c5 := ⟨_, rfl⟩
    rw [hA5, hc5] at hsr
    have HS5 := Lib.hid hsr
    have HA5 := Lib.hid (And.intro hA5 hc5)
    clear hsr hA5 hc5
    go_wp2_with (first | (refine wpList_slice_from _ rfl (.tmp 22) (.tmp 24) 22 rfl 4 82 i3 Tryz.underlying22 HIR.out.1 HIR.out.2 Ar q cr L.length rfl rfl hlq A5 c5 HA5.out.1 HA5.out.2 ?_) | (at_builtin; refine wpList_append_at _ rfl (.tmp 26) (.tmp 29) 23 rfl w.heap.size 39 i1 (.agg #[.int .i64 0, .slice none 0 0, .string .empty, .int .i64 0, .int .i64 0, .int .i64 0, .int .i64 0]) 7 80 Tryz.underlying23 HIA.out.1 HIA.out.2.1 HIA.out.2.2.1 HIA.out.2.2.2 rfl (by decide) (.slice A La.length c) La.length _ rfl (own_ext HW3.out.a ((Ext.refl _).alloc _)) ⟨w3.heap.size, 0, none⟩ 1 1 [.int .i64 1, .slice A3 L.length c3, .string .empty, .int .i64 0, .int .i64 0, .int .i64 0, .int .i64 0] rfl rfl ?c1 ?c2 ?c3 ?c4 ?c5 ?_))
    case c1 =>
     intro j u hu
     rw [Addr.add_lit, Nat.zero_add, (Blk_.new w3 39 _).cell, List.getElem?_toArray]
     exact hu
    case c2 =>
     intro u hu
     simp only [List.mem_cons, List.not_mem_nil, or_false] at hu
     rcases hu with rfl | rfl | rfl | rfl | rfl | rfl | rfl <;> rfl
    case c3 => have := HLA.out; unfold maxLen; omega
    case c4 => have := HLA.out; omega
    case c5 => have := HW3.out.x.size; rw [World.size_alloc]; omega
    intro A6 c6 w6 own6 hg6 hV6
    have HF6 := Lib.hid (own_grown (own_ext HW3.out.f ((Ext.refl _).alloc _)) hg6 (fun g hg e => HW3.out.ne g e hg))
    have HR3 := Lib.hid (SlR.of_own (bytes := 32) encFil_ok HO3.out (by omega) (fun f hf => by
     obtain ⟨i, hi, rfl⟩ := List.getElem_of_mem hf
     obtain ⟨e1, e2⟩ := HOK.out i hi
     exact ⟨rfl, by rw [e1]; show (2 : Nat) ≤ _; decide, by omega⟩))
    have HAV := Lib.hid (show FilesIn w3 (.slice A La.length c) (.slice A' n c') ⟨addAct L, A3, c3⟩ from ⟨HR3.out, fun g hg => (New.own HO3.out).av (HW.out.a.lt g hg).2, fun g hg => (New.own HO3.out).av (HW.out.f.lt g hg).2⟩)
    have hV6' : (Value.slice A6 (La.length + 1) c6).ownBlock = (Value.slice A La.length c).ownBlock ∨ (Value.slice A6 (La.length + 1) c6).ownBlock = some (w3.alloc (.cells #[.int .i64 1, .slice A3 L.length c3, .string .empty, .int .i64 0, .int .i64 0, .int .i64 0, .int .i64 0] 39)).heap.size := by rw [World.size_alloc]; exact hV6
    have HR6 := Lib.hid ((HAV.out.ext ((Ext.refl _).alloc _)).rowA hg6 hV6').1
    have HV6 := Lib.hid (And.intro own6 (And.intro hg6 hV6'))
    clear own6 hg6 hV6 hV6'
    go_wp2_with (at_builtin; refine wpList_append_onto _ encFil_ok (by decide) rfl (.tmp 31) (.tmp 32) 24 rfl w.heap.size 57 i2 (.agg #[.string .empty, .string .empty]) Tryz.underlying24 HIF.out.1 HIF.out.2.1 HIF.out.2.2.1 HIF.out.2.2.2 rfl (.slice A' n c') n _ rfl (own_len HN.out.symm HF6.out) (.slice A3 L.length c3) L rfl HR6.out ?d1 ?d2 ?d3 ?_)
    case d1 => unfold maxLen; omega
    case d2 => omega
    case d3 => have := HW3.out.x.size; have := HV6.out.2.1.size; rw [World.size_alloc] at this; omega
    intro A7 c7 w7 own7 hg7 hV7
    have hq1 := HQ.out
    have hn1 := HN.out
    have hq2 := HLQ.out
    have HS := Lib.hid (HW3.out.step HAV.out (by rw [← HN.out]; exact HOK.out) (by omega) (by omega) ((Ext.refl _).alloc _) HV6.out.2.1 HV6.out.2.2 HV6.out.1 hg7 hV7 (own_len (by rw [HN.out]) own7))
    clear own7 hg7 hV7
    go_wp2_with fail
    go_roundw
    case rel =>
     have hfl : (Ls ++ [L]).flatten.length = n + L.length := by rw [List.flatten_append, List.length_append, ← hn1]; simp
     have hHP := HPAR.out
     have hHL := HLN.out
     have hsl := HS5.out
     rw [List.drop_drop, show q - L.length = l.length - (p + L.length) by omega] at hsl
     refine ⟨p + L.length, A5, c5, A6, c6, A7, c7, La ++ [⟨addAct L, A3, c3⟩], Ls ++ [L], ?_, ?_, ?_, ?_, hsl, ?_, ?_, ?_, ?_, ?_⟩
     ·rw [show q - L.length = l.length - (p + L.length) by omega]
     ·rw [List.length_append]; rfl
     ·rw [hfl]
     ·omega
     ·have := HS.out
      rw [List.length_append, hfl]
      exact this
     ·rw [hfl]; omega
     ·rw [hfl, List.length_append]; show La.length + 1 ≤ _; omega
     ·rw [hfl]; omega
     ·rw [hfl]; omega
    case measure =>
     have := HLQ.out
     simp [slLen]
     omega
   ·have h2I : (q : Int) ≤ 0 := by omega
    go_wp2_with fail
    go_ret2
    have hn1 := HN.out
    subst hn1
    exact ⟨A, c, A', c', La, Ls, rfl, HW.out, hle⟩
  ·have h1I : (most : Int) ≤ (n : Int) := by omega
   go_wp2_with fail
   go_ret2
   have hn1 := HN.out
   subst hn1
   exact ⟨A, c, A', c', La, Ls, rfl, HW.out, hle⟩
end Go.Proofs.YtgjijcgkmofaaaaGreatDoor
