/-
  Files with names that count on, over an archive, in plain Lean: what adding them answers, and what is got then. Conditions: as they say.
-/
import Derived.Test.YtgjijcgkmofaaaaGreatDoorQ23
import Derived.LaidSub
import Derived.MakeChecks
import Derived.Lib.LaidTab
namespace Go.Proofs.YtgjijcgkmofaaaaGreatDoor
set_option linter.unusedSimpArgs false
set_option linter.unusedVariables false
set_option maxRecDepth 100000
set_option maxHeartbeats 8000000
open Go.RowKit
theorem fname_less : ∀ i j : Fin 10, i.val < j.val → Op.bytesLess (lst (fname i.val)) (lst (fname j.val)) = true := by decide
theorem fname_ne : ∀ i j : Fin 10, i.val ≠ j.val → lst (fname i.val) ≠ lst (fname j.val) := by decide
theorem FilesOk.tail {first : Nat} {f : Fil} {L : List Fil} (h : FilesOk first (f :: L)) : f.name = fname first ∧ f.data.size ≤ 200 ∧ FilesOk (first + 1) L := by
 refine ⟨(h 0 (by simp)).1, (h 0 (by simp)).2, fun k hk => ?_⟩
 have := h (k + 1) (by simpa using hk)
 simp only [List.getElem_cons_succ] at this
 rw [show first + (k + 1) = first + 1 + k by omega] at this
 exact this
theorem FilesOk.app {first : Nat} {L L' : List Fil} (h : FilesOk first L) (h' : FilesOk (first + L.length) L') : FilesOk first (L ++ L') := by
 intro k hk
 rw [List.length_append] at hk
 by_cases hl : k < L.length
 ·rw [List.getElem_append_left hl]; exact h k hl
 ·rw [List.getElem_append_right (by omega)]
  have := h' (k - L.length) (by omega)
  rw [show first + L.length + (k - L.length) = first + k by omega] at this
  exact this
def Below_ (n : Nat) (es : List Ent) : Prop := ∀ y ∈ es, ∃ j, j < n ∧ y.name = fname j
theorem add_fresh {nb : Nat} : ∀ (L : List Fil) (first p : Nat) (es : List Ent), FilesOk first L → first + L.length ≤ 10 → Below_ first es →
  Up nb es p L ∧ addE nb es p L = some (es ++ newE nb p L) ∧ Below_ (first + L.length) (es ++ newE nb p L)
 | [], first, p, es, _, _, he => ⟨trivial, by simp [addE, newE], by simpa [newE] using he⟩
 | f :: l, first, p, es, hL, hn, he => by
  obtain ⟨e1, e2, hl⟩ := hL.tail
  rw [List.length_cons] at hn
  have hless : ∀ y ∈ es, Op.bytesLess (lst y.name) (lst f.name) = true := by
   intro y hy
   obtain ⟨j, hj, ej⟩ := he y hy
   rw [ej, e1]
   exact fname_less ⟨j, by omega⟩ ⟨first, by omega⟩ hj
  have hany : es.any (fun y => decide (lst y.name = lst f.name)) = false := by
   rw [List.any_eq_false]
   intro y hy
   obtain ⟨j, hj, ej⟩ := he y hy
   rw [ej, e1]
   have := fname_ne ⟨j, by omega⟩ ⟨first, by omega⟩ (by show j ≠ first; omega)
   simpa using this
  have hins : insE ⟨f.name, nb, p, f.data.size⟩ es = es ++ [⟨f.name, nb, p, f.data.size⟩] := by
   have := insE_split (x := (⟨f.name, nb, p, f.data.size⟩ : Ent)) es [] hless
   rw [List.append_nil] at this
   exact this
  have he' : Below_ (first + 1) (es ++ [⟨f.name, nb, p, f.data.size⟩]) := by
   intro y hy
   rcases List.mem_append.1 hy with hy | hy
   ·obtain ⟨j, hj, ej⟩ := he y hy; exact ⟨j, by omega, ej⟩
   ·obtain rfl := List.mem_singleton.1 hy; exact ⟨first, by omega, e1⟩
  obtain ⟨i1, i2, i3⟩ := add_fresh l (first + 1) (p + f.data.size) _ hl (by omega) he'
  refine ⟨.inr ⟨hless, i1⟩, ?_, ?_⟩
  ·unfold addE
   rw [hany, if_neg (by decide), hins, i2, newE_cons, List.append_assoc]
   rfl
  ·rw [newE_cons, List.length_cons, show first + (l.length + 1) = first + 1 + l.length by omega]
   rw [List.append_assoc] at i3
   exact i3
theorem newE_names (nb : Nat) : ∀ (p : Nat) (l : List Fil), (newE nb p l).map (·.name) = l.map (·.name)
 | _, [] => rfl
 | p, f :: l => by rw [newE_cons, List.map_cons, List.map_cons, newE_names nb]
theorem Full.ones {a : List Dev} {m : Nat} {all : List ByteArray} (h : Full a m all) (h64 : m ≤ 64) (k : Nat) : Ones a m k := by
 obtain ⟨r0, r1, r2⟩ := h.reads h64
 intro i p hi _ hp
 match i, hi with
 | 0, _ => show (readS (dv a 0) p p).2 = 0; rw [r0 p (by simpa using hp)]
 | 1, _ => show (readS (dv a 1) p p).2 = 0; rw [r1 p (by simpa using hp)]
 | 2, _ => show (readS (dv a 2) p (512 + p : Int)).2 = 0; rw [r2 p (by simpa using hp)]
def zero24 : ByteArray := bs (List.replicate 24 0)
theorem catFault_no : catFault noCat = 0 := by decide
theorem catText_no : catText noCat = bs (List.replicate 192 0) := by
 have e : (encCatS noCat).1 = bs [0, 0] := by unfold encCatS; rw [if_pos catFault_no]; rfl
 unfold catText
 rw [e]
 decide
theorem arch_new (m : Nat) (h8 : 8 ≤ m) (D : Nat → ByteArray) : Arch (List.replicate m zero24) m noCat D := by
 refine ⟨catFault_no, ?_, by show (8 : Int) ≤ m; omega, fun k hk => absurd hk (by simp [noCat]), fun x hx => absurd hx (by simp [noCat])⟩
 rw [catText_no]
 intro i hi
 have hi : i < 8 := by rw [size_bs, List.length_replicate] at hi; omega
 have e : pl (List.replicate m zero24) (0 + i) = zero24 := by
  unfold pl
  rw [List.getD_eq_getElem?_getD, List.getElem?_replicate, if_pos (by omega)]; rfl
 rw [e]
 have hc : i = 0 ∨ i = 1 ∨ i = 2 ∨ i = 3 ∨ i = 4 ∨ i = 5 ∨ i = 6 ∨ i = 7 := by omega
 rcases hc with rfl | rfl | rfl | rfl | rfl | rfl | rfl | rfl <;> decide
theorem fname_inj {i j : Nat} (hi : i < 10) (hj : j < 10) (h : lst (fname i) = lst (fname j)) : i = j := by
 by_cases e : i = j
 ·exact e
 ·exact absurd h (fname_ne ⟨i, hi⟩ ⟨j, hj⟩ e)
structure Told (all : List ByteArray) (m : Nat) (c : Cat) (D : Nat → ByteArray) (G : List Fil) (n : Nat) : Prop where
 arch : Arch all m c D
 names : c.entries.map (·.name) = G.map (·.name)
 data : ∀ f ∈ G, ∀ x ∈ c.entries, lst x.name = lst f.name → (D x.block.toNat).extract x.at_.toNat (x.at_ + x.bytes).toNat = f.data
 below : Below_ n c.entries
theorem told_new (m : Nat) (h8 : 8 ≤ m) : Told (List.replicate m zero24) m noCat (fun _ => .empty) [] 0 :=
 ⟨arch_new m h8 _, rfl, fun f hf => absurd hf (by simp), fun y hy => absurd hy (by simp [noCat])⟩
theorem Told.low {all : List ByteArray} {m : Nat} {c : Cat} {D : Nat → ByteArray} {G : List Fil} {n : Nat} (h : Told all m c D G n) : ∀ f ∈ G, ∃ j, j < n ∧ f.name = fname j := by
 intro f hf
 have : f.name ∈ c.entries.map (·.name) := by rw [h.names]; exact List.mem_map_of_mem hf
 obtain ⟨x, hx, e⟩ := List.mem_map.1 this
 obtain ⟨j, hj, ej⟩ := h.below x hx
 exact ⟨j, hj, by rw [← e]; exact ej⟩
theorem Told.more {all : List ByteArray} {m : Nat} {c : Cat} {D : Nat → ByteArray} {G : List Fil} {n n' : Nat} (h : Told all m c D G n) (hn : n ≤ n') : Told all m c D G n' :=
 ⟨h.arch, h.names, h.data, fun y hy => by obtain ⟨j, hj, e⟩ := h.below y hy; exact ⟨j, by omega, e⟩⟩
theorem Told.add {a : List Dev} {m k0 : Nat} {all : List ByteArray} {c : Cat} {D : Nat → ByteArray} {G : List Fil} {n : Nat} (ht : Told all m c D G n) (h : Part a m all) (ho : Ones a m k0) (h16 : 16 ≤ m) (h64 : m ≤ 64) (h2 : m % 2 = 0) {L : List Fil} (hL : FilesOk n L) (hn : n + L.length ≤ 10) (hc : (addS a L).2 = 0) :
  Part (addS a L).1 m (addG a all L) ∧ Ones (addS a L).1 m k0 ∧ Told (addG a all L) m (addCat c (c.entries ++ newE c.blocks.length 0 L) (packS (dataS L)).1) (addD c.blocks.length D L) (G ++ L) (n + L.length) := by
 obtain ⟨es, he, hf, hp, hon, ha⟩ := ht.arch.add h ho h16 h64 h2 hc
 obtain ⟨_, h2', h3⟩ := add_fresh (nb := c.blocks.length) L n 0 c.entries hL hn ht.below
 rw [h2'] at he
 obtain rfl := Option.some.inj he
 refine ⟨hp, hon, ha, ?_, ?_, h3⟩
 ·show (c.entries ++ newE c.blocks.length 0 L).map (·.name) = _
  rw [List.map_append, List.map_append, newE_names, ht.names]
 ·intro f hf' x hx hname
  have hx : x ∈ c.entries ++ newE c.blocks.length 0 L := hx
  obtain ⟨_, _, _, f4⟩ := catFault_ok ht.arch.ok
  rcases List.mem_append.1 hx with hx | hx
  ·rcases List.mem_append.1 hf' with hf' | hf'
   ·have hb := entBad_false (entsF_ok _ _ _ f4 x hx)
    have e : addD c.blocks.length D L x.block.toNat = D x.block.toNat := by unfold addD; rw [if_neg (by omega)]
    rw [e]
    exact ht.data f hf' x hx hname
   ·exfalso
    obtain ⟨i, hi, rfl⟩ := List.getElem_of_mem hf'
    obtain ⟨j, hj, ej⟩ := ht.below x hx
    rw [ej, (hL i hi).1] at hname
    have := fname_inj (by omega) (by omega) hname
    omega
  ·obtain ⟨g, hg, e1, e2, e3, q, e4, e5, e6⟩ := newE_data L 0 x hx
   rcases List.mem_append.1 hf' with hf' | hf'
   ·exfalso
    obtain ⟨i, hi, rfl⟩ := List.getElem_of_mem hg
    obtain ⟨j, hj, ej⟩ := ht.low f hf'
    rw [e1, ej, (hL i hi).1] at hname
    have := fname_inj (by omega) (by omega) hname
    omega
   ·obtain ⟨i, hi, rfl⟩ := List.getElem_of_mem hg
    obtain ⟨j, hj, rfl⟩ := List.getElem_of_mem hf'
    rw [e1, (hL i hi).1, (hL j hj).1] at hname
    have hij := fname_inj (by omega) (by omega) hname
    obtain rfl : i = j := by omega
    have ed : addD c.blocks.length D L x.block.toNat = dataS L := by unfold addD; rw [if_pos (by rw [e2]; simp)]
    rw [ed, e4, e3]
    have t1 : ((0 + q : Nat) : Int).toNat = q := by omega
    have t2 : (((0 + q : Nat) : Int) + (L[i].data.size : Int)).toNat = q + L[i].data.size := by omega
    rw [t1, t2]
    have e7 := take_drop (dataS L) q L[i].data.size
    rw [show lst (dataS L) = L.flatMap (fun g => lst g.data) from lst_bs _, e6] at e7
    rw [← bs_lst ((dataS L).extract q (q + L[i].data.size)), ← e7, bs_lst]
theorem Told.get {a : List Dev} {m : Nat} {all : List ByteArray} {c : Cat} {D : Nat → ByteArray} {G : List Fil} {n : Nat} (ht : Told all m c D G n) (h : Part a m all) (h16 : 16 ≤ m) (h64 : m ≤ 64) (h2 : m % 2 = 0) (hr : ∀ i : Nat, i < m → (arrReadS a i).2.2 = 0) {f : Fil} (hf : f ∈ G) :
  getS a f.name = (f.data, 0) := by
 have hg := ht.arch.getS h h16 h64 h2 hr f.name
 cases hfd : c.entries.find? (fun x => decide (lst x.name = lst f.name)) with
 | none =>
  exfalso
  have hm : f.name ∈ c.entries.map (·.name) := by rw [ht.names]; exact List.mem_map_of_mem hf
  obtain ⟨x, hx, e⟩ := List.mem_map.1 hm
  have := List.find?_eq_none.1 hfd x hx
  simp only [decide_eq_true_eq] at this
  exact this (by rw [← e])
 | some x =>
  rw [hfd] at hg
  rw [hg]
  have hx := List.mem_of_find?_eq_some hfd
  have hn := List.find?_some hfd
  simp only [decide_eq_true_eq] at hn
  dsimp only
  rw [ht.data f hf x hx hn]
theorem Told.gone {a : List Dev} {m : Nat} {all : List ByteArray} {c : Cat} {D : Nat → ByteArray} {G : List Fil} {n : Nat} (ht : Told all m c D G n) (h : Part a m all) (h16 : 16 ≤ m) (h64 : m ≤ 64) (h2 : m % 2 = 0) (hr : ∀ i : Nat, i < m → (arrReadS a i).2.2 = 0) {name : ByteArray} (hf : ∀ f ∈ G, lst f.name ≠ lst name) :
  getS a name = (.empty, 6) := by
 have hg := ht.arch.getS h h16 h64 h2 hr name
 cases hfd : c.entries.find? (fun x => decide (lst x.name = lst name)) with
 | none => rw [hfd] at hg; exact hg
 | some x =>
  exfalso
  have hx := List.mem_of_find?_eq_some hfd
  have hn := List.find?_some hfd
  simp only [decide_eq_true_eq] at hn
  have : x.name ∈ G.map (·.name) := by rw [← ht.names]; exact List.mem_map_of_mem hx
  obtain ⟨f, hf', e⟩ := List.mem_map.1 this
  exact hf f hf' (by rw [e]; exact hn)
theorem new_arr {m : Nat} (h16 : 16 ≤ m) (h64 : m ≤ 64) (h2 : m % 2 = 0) : newArrS (m : Int) = ([freshDev m 0, freshDev m 0, freshDev (m / 2) 512], 0) := by
 unfold newArrS
 have h1 : (inB (m : Int) 16 64 && decide ((m : Int) % 2 = 0)) = true := by
  unfold inB
  simp only [Bool.and_eq_true, decide_eq_true_eq]
  omega
 rw [if_pos h1, Int.toNat_natCast, show ((m : Int) / 2).toNat = m / 2 by omega]
theorem tab_of_laid5 {W : World} (h : laidMetH Tryz.prog [("math/bits.deBruijn32tab", Rows.laid_math_bits_deBruijn32tab), ("math/bits.deBruijn64tab", Rows.laid_math_bits_deBruijn64tab), ("internal/strconv.uint64pow10", Rows.laid_internal_strconv_uint64pow10), ("unicode/utf8.acceptRanges", Rows.laid_unicode_utf8_acceptRanges), ("unicode/utf8.first", Rows.laid_unicode_utf8_first)] W) : Tab W := by
 have h1 := h.filter (fun x => x.1 == "internal/strconv.uint64pow10")
 rw [show ([("math/bits.deBruijn32tab", Rows.laid_math_bits_deBruijn32tab), ("math/bits.deBruijn64tab", Rows.laid_math_bits_deBruijn64tab), ("internal/strconv.uint64pow10", Rows.laid_internal_strconv_uint64pow10), ("unicode/utf8.acceptRanges", Rows.laid_unicode_utf8_acceptRanges), ("unicode/utf8.first", Rows.laid_unicode_utf8_first)] : List (String × DataW Unit)).filter (fun x => x.1 == "internal/strconv.uint64pow10") =
  [("internal/strconv.uint64pow10", Rows.laid_internal_strconv_uint64pow10)] by simp] at h1
 rw [MakeChecks.laidMetH_plain _ _ _ (by kernel_rfl)] at h1
 rw [show (Rows.laid_internal_strconv_uint64pow10 : DataW Unit) = Lib.tabData .u64 Lib.pow10Tab by rfl] at h1
 exact Lib.tabIs_of_head (g := 1) (t := 240) (e := 178) (n := 20) (by kernel_rfl) (by kernel_rfl) Tryz.underlying240 Tryz.underlying178 (by kernel_rfl) (by kernel_rfl) h1
def ActPost (gs : Nat) (A : Option Addr) (c : Nat) (s : Sh) (r : Sh × Ans) (w : World) (e : Ending) (w' : World) : Prop :=
 ∃ Vn Vg A' c', e = .returned (.agg #[.int .i64 r.2.code, .string r.2.data, Vn, .int .i64 r.2.count, Vg]) ∧ w.grownBy w' (some gs) ∧ Blk_ w' gs 123 #[.slice A' 3 c', .int .i64 (r.1.next : Int), .int .i64 (r.1.rounds : Int)] ∧
  ((A' = A ∧ c' = c ∧ r.1.a = s.a) ∨ Fresh w w' (fun W => RArr W [.slice A' 3 c'] r.1.a)) ∧ Fresh w w' (fun W => SlR 1 16 RStr W Vn r.2.names) ∧ Fresh w w' (fun W => SlR 1 8 RInt W Vg r.2.gone)
theorem post_same {gs : Nat} {A : Option Addr} {c : Nat} {s : Sh} {w w' : World} {a : Ans} {Vn Vg : Value} (hb : Blk_ w gs 123 #[.slice A 3 c, .int .i64 (s.next : Int), .int .i64 (s.rounds : Int)]) (hx : Ext w w')
  (hn : Fresh w w' (fun W => SlR 1 16 RStr W Vn a.names)) (hg : Fresh w w' (fun W => SlR 1 8 RInt W Vg a.gone)) : ActPost gs A c s (s, a) w (.returned (.agg #[.int .i64 a.code, .string a.data, Vn, .int .i64 a.count, Vg])) w' :=
 ⟨Vn, Vg, A, c, rfl, hx.by_ _, hb.ext hx, .inl ⟨rfl, rfl, rfl⟩, hn, hg⟩
theorem post_err {gs : Nat} {A : Option Addr} {c : Nat} {s : Sh} {w w' : World} {k : Int} (hb : Blk_ w gs 123 #[.slice A 3 c, .int .i64 (s.next : Int), .int .i64 (s.rounds : Int)]) (hx : Ext w w') :
  ActPost gs A c s (s, ansE k) w (.returned (.agg #[.int .i64 k, .string .empty, .slice none 0 0, .int .i64 0, .slice none 0 0])) w' :=
 post_same (a := ansE k) hb hx (fresh_nil encStr_ok w w') (fresh_nil encInt_ok w w')
theorem post_moves {gs : Nat} {A : Option Addr} {c : Nat} {s : Sh} {w w' : World} {a' : List Dev} {all : List ByteArray} (hm : Moves gs w w' a' (s.next : Int) (s.rounds : Int)) :
  ActPost gs A c s (⟨a', all, s.next, s.rounds⟩, ansE 0) w (.returned (.agg #[.int .i64 0, .string .empty, .slice none 0 0, .int .i64 0, .slice none 0 0])) w' := by
 obtain ⟨A', c', hg, hb, hf⟩ := hm
 exact ⟨_, _, A', c', rfl, hg, hb, .inr hf, fresh_nil encStr_ok w w', fresh_nil encInt_ok w w'⟩
theorem health_code {a : List Dev} {m : Nat} (h : Good a m) (h16 : 16 ≤ m) (h2 : m % 2 = 0) : (healthS a).2.2 = 0 := by
 unfold healthS
 rw [h.may h16 h2]
 rfl
theorem act_any (gs : Nat) (A : Option Addr) (c m : Nat) (s : Sh) (x : ActD) (vf : Value) (w : World) (hb : Blk_ w gs 123 #[.slice A 3 c, .int .i64 (s.next : Int), .int .i64 (s.rounds : Int)]) (hr : RArr w [.slice A 3 c] s.a)
  (hx : RAct w [.int .i64 x.kind, vf, .string x.name, .int .i64 x.d, .int .i64 x.n, .int .i64 x.at_, .int .i64 x.by_] x) (h16 : 16 ≤ m) (h64 : m ≤ 64) (h2 : m % 2 = 0) (hs : ShOk m s)
  (hcf : x.kind = 1 → (openS s.a).2 = 0 → catFault (openS s.a).1 = 0) (hu : x.kind = 1 → (openS s.a).2 = 0 → filesS x.files = 0 → Up (openS s.a).1.blocks.length (openS s.a).1.entries 0 x.files) (hl3 : x.kind = 1 → (addS s.a x.files).2 = 0 → (addS s.a x.files).1.length = 3) (hn : x.kind = 7 → 0 ≤ x.n ∧ x.n ≤ 64) :
  Calls Tryz.prog 62 #[.pointer (some ⟨gs, 0, none⟩), .agg #[.int .i64 x.kind, vf, .string x.name, .int .i64 x.d, .int .i64 x.n, .int .i64 x.at_, .int .i64 x.by_]] w fun e w' => ActPost gs A c s (actS m s x) w e w' := by
 obtain ⟨kd, fs, nm, d, n, p, b⟩ := x
 obtain ⟨v, hv, hf, i1, i2, i3, i4, i5, i6⟩ := hx
 have hvf : vf = v := by simp only [List.cons.injEq] at hv; exact hv.2.1
 subst hvf
 clear hv
 dsimp only at *
 have h3 := hs.part.good.len
 have hmay := hs.part.good.may h16 h2
 unfold actS
 dsimp only
 by_cases k1 : kd = 1
 ·subst k1
  rw [if_pos rfl]
  refine (act_add gs A c s.a s.next s.rounds vf nm d n p b w hb hr h3 fs hf (hcf rfl) (fun _ => hmay) (hu rfl) (hl3 rfl)).mono ?_
  rintro e w' ⟨rfl, h | h⟩
  ·rw [if_neg h.1]; exact post_err hb h.2
  ·rw [if_pos h.1, h.1]; exact post_moves h.2
 rw [if_neg k1]
 by_cases k2 : kd = 2
 ·subst k2
  rw [if_pos rfl]
  refine (act_get gs A c s.a s.next s.rounds vf nm d n p b w hb hr h3 i1).mono ?_
  rintro e w' ⟨rfl, h⟩
  exact post_same (a := ⟨(getS s.a nm).2, (getS s.a nm).1, [], 0, []⟩) hb h (fresh_nil encStr_ok w w') (fresh_nil encInt_ok w w')
 rw [if_neg k2]
 by_cases k3 : kd = 3
 ·subst k3
  rw [if_pos rfl]
  refine (act_list gs A c s.a s.next s.rounds vf nm d n p b w hb hr h3).mono ?_
  rintro e w' ⟨Vn, rfl, h, hn⟩
  exact post_same (a := ⟨(openS s.a).2, .empty, (openS s.a).1.entries.map (·.name), 0, []⟩) hb h hn (fresh_nil encInt_ok w w')
 rw [if_neg k3]
 by_cases k4 : kd = 4
 ·subst k4
  rw [if_pos rfl]
  cases hi : inB d 0 2 with
  | true =>
   obtain ⟨h0, h1⟩ := inB_true hi
   obtain ⟨k, rfl⟩ := Int.eq_ofNat_of_zero_le h0
   rw [if_pos rfl, Int.toNat_natCast]
   refine (act_lose gs A c s.a s.next s.rounds vf nm k n p b w hb hr h3 k rfl (by omega) i4 i5 i6).mono ?_
   rintro e w' ⟨rfl, h | h⟩
   ·unfold hurtS; rw [if_neg h.1]; exact post_err hb h.2
   ·unfold hurtS; rw [if_pos h.1, h.1, Int.toNat_natCast]; exact post_moves h.2
  | false =>
   rw [if_neg (by decide)]
   refine (act_loseRange gs A c s.a s.next s.rounds vf nm d n p b w hb hr h3 (inB_false hi)).mono ?_
   rintro e w' ⟨rfl, h⟩
   exact post_err hb h
 rw [if_neg k4]
 by_cases k5 : kd = 5
 ·subst k5
  rw [if_pos rfl]
  cases hi : inB d 0 2 with
  | true =>
   obtain ⟨h0, h1⟩ := inB_true hi
   obtain ⟨k, rfl⟩ := Int.eq_ofNat_of_zero_le h0
   rw [if_pos rfl, Int.toNat_natCast]
   refine (act_turn gs A c s.a s.next s.rounds vf nm k n p b w hb hr h3 k rfl (by omega) i4 i5 i6).mono ?_
   rintro e w' ⟨rfl, h | h⟩
   ·unfold hurtS; rw [if_neg h.1]; exact post_err hb h.2
   ·unfold hurtS; rw [if_pos h.1, h.1, Int.toNat_natCast]; exact post_moves h.2
  | false =>
   rw [if_neg (by decide)]
   refine (act_turnRange gs A c s.a s.next s.rounds vf nm d n p b w hb hr h3 (inB_false hi)).mono ?_
   rintro e w' ⟨rfl, h⟩
   exact post_err hb h
 rw [if_neg k5]
 by_cases k6 : kd = 6
 ·subst k6
  rw [if_pos rfl]
  refine (act_replace gs A c s.a s.next s.rounds vf nm d n p b w hb hr h3 i3).mono ?_
  rintro e w' ⟨rfl, h | h⟩
  ·rw [if_neg h.1]; exact post_err hb h.2
  ·rw [if_pos h.1, h.1]; exact post_moves h.2
 rw [if_neg k6]
 by_cases k7 : kd = 7
 ·subst k7
  obtain ⟨h0, h1⟩ := hn rfl
  obtain ⟨k, rfl⟩ := Int.eq_ofNat_of_zero_le h0
  rw [if_pos rfl, if_pos (show inB (k : Int) 0 64 = true by unfold inB; simp only [Bool.and_eq_true, decide_eq_true_eq]; omega), Int.toNat_natCast]
  refine (act_scrub gs A c s.a s.next s.rounds vf nm d k p b w hb hr h3 m s.next s.rounds k s.all rfl rfl rfl hs.part h16 h64 h2 hs.next (by have := hs.rounds; omega) (by omega)).mono ?_
  rintro e w' ⟨Vg, r, hrr, rfl, ⟨A', c', hg, hb', hf'⟩, hgo⟩
  rw [← hrr]
  exact ⟨_, Vg, A', c', rfl, hg, hb', .inr hf', fresh_nil encStr_ok w w', hgo⟩
 rw [if_neg k7]
 by_cases k8 : kd = 8
 ·subst k8
  rw [if_pos rfl]
  refine (act_health gs A c s.a s.next s.rounds vf nm d n p b w hb hr h3 m s.all hs.part h16 h64 h2).mono ?_
  rintro e w' ⟨Vg, rfl, h, hg⟩
  rw [health_code hs.part.good h16 h2]
  exact post_same (a := ⟨0, .empty, [], (healthS s.a).1, (healthS s.a).2.1⟩) hb h (fresh_nil encStr_ok w w') hg
 rw [if_neg k8]
 refine (act_none gs A c s.a s.next s.rounds vf nm d n p b w hb hr h3 kd (by omega)).mono ?_
 rintro e w' ⟨rfl, h⟩
 exact post_err hb h
section
variable {P : Program} {fn : Func} {p' u y : Tmp} {ty' : TypeId} {tmps : Array Value} {w : World} {g' : Nat} {cs' : Array Value} {t' : TypeId} {d' : TypeDesc}
theorem res_tmp_cell_tmp (h : fn.results = #[.tmp u, .cell p' ty', .tmp y]) (ha' : tmps.getD p' undef = .pointer (some ⟨g', 0, none⟩)) (hb' : Blk_ w g' t' cs') (hu' : P.underlying ty' = some d')
  (hd' : (match d' with | .struct _ | .array _ _ => true | _ => false) = true) (hi' : (P.info? ty').map (·.size) = some cs'.size) :
  (results fn tmps).run P w = .ok (.tuple #[tmps.getD u undef, .agg cs', tmps.getD y undef]) w := by
 have ha2 : tmps[p']?.getD undef = .pointer (some ⟨g', 0, none⟩) := by simpa using ha'
 simp only [results, h]
 simp [Sem.run_bind, Result.andThen, ha2, asAddr, run_load_blk hb' hu' hd' hi']
end
def ActFine (m : Nat) (s : Sh) (x : ActD) : Prop := ShOk m s ∧ (x.kind = 1 → (openS s.a).2 = 0 → catFault (openS s.a).1 = 0) ∧ (x.kind = 1 → (openS s.a).2 = 0 → filesS x.files = 0 → Up (openS s.a).1.blocks.length (openS s.a).1.entries 0 x.files) ∧
 (x.kind = 1 → (addS s.a x.files).2 = 0 → (addS s.a x.files).1.length = 3) ∧ (x.kind = 7 → 0 ≤ x.n ∧ x.n ≤ 64)
def sh0 (m : Nat) : Sh := ⟨(newArrS (m : Int)).1, List.replicate m zero24, 0, 0⟩
structure AnsV where
 a : Ans
 n : Value
 g : Value
def encAns (x : AnsV) : List Value := [.int .i64 x.a.code, .string x.a.data, x.n, .int .i64 x.a.count, x.g]
def RAns : Rd Ans := fun w cs x => ∃ n g, cs = [.int .i64 x.code, .string x.data, n, .int .i64 x.count, g] ∧ SlR 1 16 RStr w n x.names ∧ SlR 1 8 RInt w g x.gone
theorem info_answer : (Tryz.prog.info? 46).map (fun i => (i.zero, i.size, i.bytes)) = some (some (.agg #[.int .i64 0, .string .empty, .slice none 0 0, .int .i64 0, .slice none 0 0]), 5, 80) := by kernel_rfl
structure RunW (w W : World) (gs : Nat) (A : Option Addr) (c : Nat) (s : Sh) (V : Value) (L : List AnsV) : Prop where
 x : Ext w W
 lo : w.heap.size ≤ gs
 b : Blk_ W gs 123 #[.slice A 3 c, .int .i64 (s.next : Int), .int .i64 (s.rounds : Int)]
 o : W.ownsRow (gs + 1) 46 5 V L.length (L.flatMap encAns)
 a : Safe W gs V (fun W => RArr W [.slice A 3 c] s.a)
 l : ∀ y ∈ L, Safe W gs V (fun W => SlR 1 16 RStr W y.n y.a.names) ∧ Safe W gs V (fun W => SlR 1 8 RInt W y.g y.a.gone)
theorem RunW.up {w W W' : World} {gs : Nat} {A : Option Addr} {c : Nat} {s : Sh} {V : Value} {L : List AnsV} (h : RunW w W gs A c s V L) (k : Ext W W') : RunW w W' gs A c s V L :=
 ⟨h.x.trans k, h.lo, h.b.ext k, own_ext h.o k, h.a.up k, fun y hy => ⟨(h.l y hy).1.up k, (h.l y hy).2.up k⟩⟩
theorem RunW.step {w W W' W2 : World} {gs : Nat} {A : Option Addr} {c m : Nat} {s : Sh} {V V' : Value} {L : List AnsV} {x : ActD} {Vn Vg : Value} {A' : Option Addr} {c' : Nat} (h : RunW w W gs A c s V L)
  (hg : W.grownBy W' (some gs)) (hb : Blk_ W' gs 123 #[.slice A' 3 c', .int .i64 ((actS m s x).1.next : Int), .int .i64 ((actS m s x).1.rounds : Int)]) (ha : (A' = A ∧ c' = c ∧ (actS m s x).1.a = s.a) ∨ Fresh W W' (fun W => RArr W [.slice A' 3 c'] (actS m s x).1.a))
  (hn : Fresh W W' (fun W => SlR 1 16 RStr W Vn (actS m s x).2.names)) (hgo : Fresh W W' (fun W => SlR 1 8 RInt W Vg (actS m s x).2.gone)) (k : Ext W' W2) {W3 : World} (hr : W2.grownBy W3 V.ownBlock) (hV : V'.ownBlock = V.ownBlock ∨ V'.ownBlock = some W2.heap.size)
  (ho : W3.ownsRow (gs + 1) 46 5 V' (L ++ [⟨(actS m s x).2, Vn, Vg⟩] : List AnsV).length ((L ++ [⟨(actS m s x).2, Vn, Vg⟩] : List AnsV).flatMap encAns)) :
  RunW w W3 gs A' c' (actS m s x).1 V' (L ++ [⟨(actS m s x).2, Vn, Vg⟩]) := by
 have hlt : ∀ j, V.ownBlock = some j → gs + 1 ≤ j ∧ j < W.heap.size := fun j hj => h.o.lt j hj
 have hgl : gs < W.heap.size := h.b.lt
 have hs : W.heap.size ≤ W'.heap.size := hg.size
 have hne : ∀ j, V.ownBlock = some j → j ≠ gs := fun j hj => by have := (hlt j hj).1; omega
 refine ⟨((h.x.grown hg (fun q hq => by injection hq with hq; have := h.lo; omega)).trans k).grown hr (fun q hq => by have := (hlt q hq).1; have := h.lo; omega), h.lo, (hb.ext k).grown hr (fun j hj => hne j hj), ho, ?_, ?_⟩
 ·rcases ha with ⟨rfl, rfl, e⟩ | ha
  ·rw [e]; exact ((h.a.act hg).up k).row hr hV
  ·exact ((ha.safe hs hgl (fun j hj => (hlt j hj).2)).up k).row hr hV
 ·intro y hy
  rcases List.mem_append.1 hy with hy | hy
  ·exact ⟨(((h.l y hy).1.act hg).up k).row hr hV, (((h.l y hy).2.act hg).up k).row hr hV⟩
  ·obtain rfl := List.mem_singleton.1 hy
   exact ⟨((hn.safe hs hgl (fun j hj => (hlt j hj).2)).up k).row hr hV, ((hgo.safe hs hgl (fun j hj => (hlt j hj).2)).up k).row hr hV⟩
theorem SlR.box1 {α : Type} {bytes : Nat} {R : Rd α} {w : World} {v : Value} {l : List α} (h : SlR 1 bytes R w v l) {g : Nat} {z : Value} (hz : w.cell? ⟨g, 0, none⟩ = some z) (hne : ∀ u x, R w [u] x → u ≠ z) (hst : ∀ w' cs x, R w cs x → R w' cs x) (u : Value) : SlR 1 bytes R (w.setCell ⟨g, 0, none⟩ u) v l := by
 obtain ⟨A, cap, e, hb, hc, h⟩ := h
 refine ⟨A, cap, e, hb, hc, ?_⟩
 rcases h with h | ⟨b, o, hA, h⟩
 ·exact .inl h
 ·refine .inr ⟨b, o, hA, fun i hi => ?_⟩
  obtain ⟨cs, hl, hcell, hr⟩ := h i hi
  obtain ⟨y, rfl⟩ := List.length_eq_one_iff.1 hl
  refine ⟨[y], hl, fun j hj => ?_, hst _ _ _ hr⟩
  have h0 := hcell j hj
  have hj0 : j = 0 := by omega
  subst hj0
  rw [World.cell?_setCell_other _ _ _ _ (fun e => ?_)]
  ·exact h0
  ·rw [← e] at h0
   rw [hz] at h0
   have : z = y := by simpa using h0
   exact hne y _ hr this.symm
theorem sl_ans {W : World} {base : Nat} {A : Option Addr} {c : Nat} {L : List AnsV} (h : W.ownsRow base 46 5 (.slice A L.length c) L.length (L.flatMap encAns)) (hb : L.length * 80 ≤ 140737488355328) (hR : ∀ y ∈ L, SlR 1 16 RStr W y.n y.a.names ∧ SlR 1 8 RInt W y.g y.a.gone) : SlR 5 80 RAns W (.slice A L.length c) (L.map (·.a)) := by
 have hlen : (L.map (·.a)).length = L.length := List.length_map _
 have h' := h
 rcases h.2 with ⟨hv, h0⟩ | ⟨g, cap, cur, hv, _, hg, hnc, _⟩
 ·have : L = [] := List.eq_nil_of_length_eq_zero h0
  subst this
  exact ⟨A, c, rfl, by decide, Nat.zero_le _, .inl rfl⟩
 ·injection hv with a1 a2 a3
  subst a1
  subst a3
  refine ⟨_, c, by rw [hlen], by rw [hlen]; exact hb, by rw [hlen]; omega, .inr ⟨g, 0, rfl, fun i hi => ?_⟩⟩
  have hi' : i < L.length := by rw [hlen] at hi; exact hi
  refine ⟨encAns L[i], rfl, fun j hj => ?_, ?_⟩
  ·have hc := h'.cellAt (i * 5 + j) (by omega)
   rw [Nat.zero_add, hc, flatMap_at (enc := encAns) (C := 5) (fun _ => rfl) L i j hi' hj]
  ·rw [List.getElem_map]
   exact ⟨_, _, rfl, (hR _ (List.getElem_mem hi')).1, (hR _ (List.getElem_mem hi')).2⟩
theorem run_any (v : Value) (acts : List ActD) (m : Nat) (w : World) (h : SlR 7 80 RAct w v acts) (h16 : 16 ≤ m) (h64 : m ≤ 64) (h2 : m % 2 = 0) (hlen : acts.length ≤ 200) (hf : ∀ k (hk : k < acts.length), ActFine m (runS m (acts.take k) (sh0 m)).2 acts[k]) :
  Calls Tryz.prog 29 #[.int .i64 (m : Int), v] w fun e w' => ∃ A c A' c', e = .returned (.tuple #[.slice A acts.length c, .agg #[.slice A' 3 c'], .int .i64 0]) ∧ Ext w w' ∧ SlR 5 80 RAns w' (.slice A acts.length c) (runS m acts (sh0 m)).1 ∧ RArr w' [.slice A' 3 c'] (runS m acts (sh0 m)).2.a := by
 have HH := Lib.hid h
 have HM := Lib.hid (And.intro h16 (And.intro h64 h2))
 have HLEN := Lib.hid hlen
 have HF := Lib.hid hf
 have hmI : (m : Int) ≤ 64 := by omega
 have hlI : (acts.length : Int) ≤ 200 := by omega
 obtain ⟨Av, cv, rfl, hvb, hvc, hrow⟩ := h
 have HROW := Lib.hid hrow
 clear h16 h64 h2 hlen hf hvb hvc hrow
 go_enter Tryz.func29, Tryz.ntmps29
 go_wp2_with fail
 have hna := new_arr HM.out.1 HM.out.2.1 HM.out.2.2
 refine calls_abs (fun W => Ext w W ∧ Blk_ W w.heap.size 30 #[.slice none 0 0]) ⟨(Ext.refl _).alloc _, Blk_.new _ _ _⟩ ?_
 rintro w0 ⟨hx0, hb0⟩
 obtain ⟨b5, h5⟩ : ∃ b, b = w.heap.size := ⟨_, rfl⟩
 rw [← h5] at hb0 ⊢
 have HX0 := Lib.hid hx0
 have HB0 := Lib.hid hb0
 have HL5 := Lib.hid (show w.heap.size ≤ b5 by omega)
 clear hx0 hb0 h5
 refine (archNew_any (m : Int) w0 (by unfold I64; omega)).mono ?_
 obtain ⟨a, ha⟩ : ∃ a, a = (newArrS (m : Int)).1 := ⟨_, rfl⟩
 have h20 : (newArrS (m : Int)).2 = 0 := by rw [hna]
 have ha3 : a.length = 3 := by rw [ha, hna]; rfl
 rw [h20, ← ha, ha3]
 have HA := Lib.hid ha
 rintro e w1 ⟨A, c, rfl, hx1, ho1⟩
 have HX1 := Lib.hid (HX0.out.trans hx1)
 have HB1 := Lib.hid (HB0.out.ext hx1)
 have HX01 := Lib.hid hx1
 have HO1 := Lib.hid ho1
 have HA3 := Lib.hid ha3
 clear hx1 ho1 hna h20 ha ha3 HX0 HB0
 go_wp2_with fail
 refine wp_abs (fun W => Ext w1 W ∧ Blk_ W (w1.heap.size + 1) 123 #[.slice A 3 c, .int .i64 0, .int .i64 0]) ⟨((Ext.refl _).alloc _).alloc _, Blk_.new1 _ _ _ _⟩ ?_
 rintro W ⟨hxW, hbW⟩
 obtain ⟨gs, hgs⟩ : ∃ g, g = w1.heap.size + 1 := ⟨_, rfl⟩
 have h01 := HX01.out.size
 have hl1 := HX1.out.size
 have hb5l := HB1.out.lt
 rw [← hgs] at hbW ⊢
 have hsa : Safe W gs (.slice none 0 0) (fun W => RArr W [.slice A 3 c] (sh0 m).a) :=
  ⟨w1, w0.heap.size, .inr (by omega), (fun j hj => by cases hj), hxW.size, (fun j _ h2 => Below.block hxW j h2), (by show Fresh w0 w1 (fun W => RArr W [.slice A 3 c] (newArrS (m : Int)).1); rw [← HA.out]; exact fresh_arr HO1.out (by have := HA3.out; omega))⟩
 have HRW := Lib.hid (show RunW w W gs A c (sh0 m) (.slice none 0 0) [] from ⟨HX1.out.trans hxW, by omega, hbW, World.ownsRow_nil _ _ _ _, hsa, fun y hy => by cases hy⟩)
 have HB5 := Lib.hid (HB1.out.ext hxW)
 have HG5 := Lib.hid (show b5 < gs by omega)
 have HGS := Lib.hid (show w.heap.size ≤ gs by omega)
 clear hxW hbW hgs hsa h01 hl1 hb5l HX1 HB1 HX01 HO1 HA HA3
 obtain ⟨i1, hi0, hz0, hz1, hz2⟩ := info_parts info_answer
 have HIE := Lib.hid (And.intro hi0 (And.intro hz0 (And.intro hz1 hz2)))
 clear hi0 hz0 hz1 hz2
 go_loopw [10, 31] (fun pv kv wr => ∃ (k : Nat) (Ao : Option Addr) (co : Nat) (A : Option Addr) (c : Nat) (L : List AnsV), pv = .slice Ao L.length co ∧ kv = .int .i64 k ∧ k ≤ acts.length ∧ L.length = k ∧ L.map (·.a) = (runS m (acts.take k) (sh0 m)).1 ∧ RunW w wr gs A c (runS m (acts.take k) (sh0 m)).2 (.slice Ao L.length co) L ∧ Blk_ wr b5 30 #[.slice none 0 0]) (fun _ kv _ => acts.length - (intOf kv).toNat)
 case atStart => exact ⟨0, none, 0, A, c, [], rfl, rfl, Nat.zero_le _, rfl, rfl, HRW.out, HB5.out⟩
 case round =>
  clear HRW HB5
  obtain ⟨k, Ao, co, A, c, L, rfl, rfl, hk, hLk, hmap, hrw, hb5⟩ := hrel
  obtain ⟨st, hst⟩ : ∃ st, st = runS m (acts.take k) (sh0 m) := ⟨_, rfl⟩
  rw [← hst] at hmap hrw
  have HRW := Lib.hid hrw
  have HB5 := Lib.hid hb5
  have HMAP := Lib.hid hmap
  have HLK := Lib.hid hLk
  have HST := Lib.hid hst
  by_cases hlt : k < acts.length
  ·have hltI : (k : Int) < (acts.length : Int) := by omega
   have hL200 : (L.length : Int) ≤ 200 := by omega
   have HK := Lib.hid hlt
   have hsn := runS_snoc m acts k hlt (sh0 m)
   have hfin := HF.out k hlt
   rcases HROW.out with hnil | ⟨b, o, rfl, hrow⟩
   ·exact absurd hlt (by rw [hnil]; simp)
   obtain ⟨cs, hcl, hcell, hact⟩ := hrow k hlt
   obtain ⟨x, hx⟩ : ∃ x, x = acts[k] := ⟨_, rfl⟩
   rw [← hst] at hsn hfin
   have hact1 : RAct w cs x := by rw [hx]; exact hact
   have hfin1 : ActFine m st.2 x := by rw [hx]; exact hfin
   have hsn1 : (runS m (acts.take (k + 1)) (sh0 m)).1 = st.1 ++ [(actS m st.2 x).2] ∧ (runS m (acts.take (k + 1)) (sh0 m)).2 = (actS m st.2 x).1 := by rw [hx]; exact hsn
   have HSN := Lib.hid hsn1
   have HFIN := Lib.hid hfin1
   have hact0 := hact1
   obtain ⟨vf, rfl, hsf, _⟩ := hact0
   obtain ⟨Af, cf, rfl, _⟩ := hsf
   have HACT := Lib.hid hact1
   have q0 := hrw.x.cell (hcell 0 (by decide))
   have q1 := hrw.x.cell (hcell 1 (by decide))
   have q2 := hrw.x.cell (hcell 2 (by decide))
   have q3 := hrw.x.cell (hcell 3 (by decide))
   have q4 := hrw.x.cell (hcell 4 (by decide))
   have q5 := hrw.x.cell (hcell 5 (by decide))
   have q6 := hrw.x.cell (hcell 6 (by decide))
   simp only [Nat.add_zero] at q0
   clear hact1 hfin1 hsn1 hact hfin hsn hcl hcell hrow hx hst hmap hrw hb5 hk hLk hlt
   go_wp2_with fail
   refine calls_abs (fun W => Ext wr W) ((Ext.refl _).alloc _) ?_
   rintro w2 hx2
   clear q0 q1 q2 q3 q4 q5 q6
   have hw2 := HRW.out.up hx2
   have HB2 := Lib.hid (HB5.out.ext hx2)
   obtain ⟨f1, f2, f3, f4, f5⟩ := HFIN.out
   refine (act_any gs A c m st.2 x (.slice Af x.files.length cf) w2 hw2.b hw2.a.now (RAct.up HACT.out hw2.x) HM.out.1 HM.out.2.1 HM.out.2.2 f1 f2 f3 f4 f5).mono ?_
   clear f1 f2 f3 f4 f5
   rintro e w3 ⟨Vn, Vg, A', c', rfl, hg, hb', ha', hn', hgo'⟩
   obtain ⟨An, cn, en, _⟩ := hn'.now
   obtain ⟨Ag, cg, eg, _⟩ := hgo'.now
   have hown3 := own_grown hw2.o hg (fun g hg' e => by injection e with e; have := (hw2.o.lt g hg').1; omega)
   have HOWN3 := Lib.hid hown3
   have HW2 := Lib.hid hw2
   have HG3 := Lib.hid hg
   have HB3 := Lib.hid hb'
   have HA3 := Lib.hid ha'
   have HN3 := Lib.hid hn'
   have HGO3 := Lib.hid hgo'
   have HEN := Lib.hid en
   have HEG := Lib.hid eg
   have hbb := HB2.out.grown hg (fun j hj => by injection hj with hj; have := HG5.out; omega)
   have HB53 := Lib.hid hbb
   clear hown3 hw2 hg hb' ha' hn' hgo' hx2 hbb HRW HB5 HB2 en eg
   obtain ⟨r, hr⟩ : ∃ r, r = actS m st.2 x := ⟨_, rfl⟩
   rw [← hr]
   have HRR := Lib.hid hr
   clear hr
   go_wp2_with (at_builtin; refine wpList_append_at _ rfl (.tmp 35) (.tmp 39) 27 rfl (gs + 1) 46 i1 (.agg #[.int .i64 0, .string .empty, .slice none 0 0, .int .i64 0, .slice none 0 0]) 5 80 Tryz.underlying27 HIE.out.1 HIE.out.2.1 HIE.out.2.2.1 HIE.out.2.2.2 rfl (by decide) (.slice Ao L.length co) L.length _ rfl (own_ext HOWN3.out ((Ext.refl _).alloc _)) ⟨w3.heap.size, 0, none⟩ 1 1 [.int .i64 r.2.code, .string r.2.data, Vn, .int .i64 r.2.count, Vg] rfl rfl ?c1 ?c2 ?c3 ?c4 ?c5 ?_)
   case c1 =>
    intro j u hu
    rw [Addr.add_lit, Nat.zero_add, (Blk_.new w3 46 _).cell]
    simpa using hu
   case c2 =>
    intro u hu
    simp only [List.mem_cons, List.not_mem_nil, or_false] at hu
    rcases hu with rfl | rfl | rfl | rfl | rfl
    ·rfl
    ·rfl
    ·rw [HEN.out]; rfl
    ·rfl
    ·rw [HEG.out]; rfl
   case c3 => have := HLK.out; have := HK.out; have := HLEN.out; unfold maxLen; omega
   case c4 => have := HLK.out; have := HK.out; have := HLEN.out; omega
   case c5 => have := HB3.out.lt; rw [World.size_alloc]; omega
   intro A4 c4 w4 own4 hg4 hap4
   have hst4 : RunW w w4 gs A' c' r.1 (.slice A4 (L.length + 1) c4) (L ++ [⟨r.2, Vn, Vg⟩]) := by
    have hb3 := HB3.out
    have ha3 := HA3.out
    have hn3 := HN3.out
    have hgo3 := HGO3.out
    have hrr := HRR.out
    subst hrr
    exact RunW.step HW2.out HG3.out hb3 ha3 hn3 hgo3 ((Ext.refl _).alloc _) hg4 (by rw [World.size_alloc]; exact hap4) (by
     have e1 : (L ++ [⟨(actS m st.2 x).2, Vn, Vg⟩] : List AnsV).length = L.length + 1 := by rw [List.length_append]; rfl
     have e2 : (L ++ [⟨(actS m st.2 x).2, Vn, Vg⟩] : List AnsV).flatMap encAns = L.flatMap encAns ++ [.int .i64 (actS m st.2 x).2.code, .string (actS m st.2 x).2.data, Vn, .int .i64 (actS m st.2 x).2.count, Vg] := by rw [List.flatMap_append]; rfl
     rw [e1, e2]
     exact own4)
   have HW4 := Lib.hid hst4
   have HB54 := Lib.hid ((HB53.out.alloc _).grown hg4 (fun j hj e => by have := (HOWN3.out.lt j hj).1; have := HG5.out; omega))
   clear own4 hg4 hap4 hst4
   go_wp2_with fail
   go_roundw
   case rel =>
    have hsn := HSN.out
    have hlk := HLK.out
    refine ⟨k + 1, A4, c4, A', c', L ++ [⟨r.2, Vn, Vg⟩], by rw [List.length_append]; rfl, by first | rfl | go_num, by have := HK.out; omega, by rw [List.length_append, hlk]; rfl, ?_, ?_, HB54.out⟩
    ·rw [hsn.1, List.map_append, HMAP.out, HRR.out]; rfl
    ·rw [hsn.2, List.length_append, ← HRR.out]; exact HW4.out
   case measure => have := HK.out; (simp [intOf]; try omega)
  ·obtain rfl : k = acts.length := by omega
   have htk : acts.take acts.length = acts := List.take_length
   rw [htk] at hst
   have q0 := hrw.b.cell 0
   simp at q0
   have l0 := hrw.b.lt
   have HR := Lib.hid hrw.a.now
   have y5 := hb5.cell 0
   have z5 := hb5.frozen 0
   have l5 := hb5.lt
   simp at y5
   have HSE := Lib.hid hst
   clear hlt hk hst htk hmap hrw hb5 HST hLk
   go_wp2_with fail
   have hl3 : st.2.a.length = 3 := by
    obtain ⟨v', e', h1⟩ := HR.out
    obtain ⟨A0, c0, e0, _⟩ := h1.rowR
    have e2 : (Value.slice A 3 c) = v' := by simpa using e'
    rw [← e2] at e0
    injection e0 with _ e3 _
    exact e3.symm
   refine (arrCopy_any [.slice A 3 c] st.2.a wr HR.out).mono ?_
   rw [hl3]
   rintro e w5 ⟨A9, c9, rfl, hx5, ho5⟩
   have y5' := hx5.cell y5
   have hb59 := HB5.out.ext hx5
   have z5' := hb59.frozen 0
   have HX5 := Lib.hid hx5
   have HO5 := Lib.hid ho5
   have HB59 := Lib.hid hb59
   have HW3 := Lib.hid hl3
   have L5 := Lib.hid l5
   clear hx5 ho5 hb59 y5 z5 l5 q0 l0 hl3
   go_wp2_with fail
   refine bodyPost_ret (res_tmp_cell_tmp rfl rfl (HB59.out.set 0 (.slice A9 3 c9)) Tryz.underlying30 rfl (by kernel_rfl)) rfl ?_
   have hw5 := HRW.out.up HX5.out
   have hc5 := HB59.out.cell 0
   simp at hc5
   refine ⟨Ao, co, A9, c9, ?_, ?_, ?_, ?_⟩
   ·rw [← HLK.out]; rfl
   ·exact hw5.x.setCell (p := ⟨b5, 0, none⟩) HL5.out _
   ·rw [← HSE.out, ← HMAP.out, ← HLK.out]
    refine sl_ans (own_grown hw5.o (setRow_by _ b5 0 _) (fun g hg e => by injection e with e; have := (hw5.o.lt g hg).1; have := HG5.out; omega)) (by have := HLK.out; have := HLEN.out; omega) (fun y hy => ⟨?_, ?_⟩)
    ·exact SlR.box1 (hw5.l y hy).1.now hc5 (fun u x hr => by rw [hr.val]; exact fun e => by cases e) (fun _ _ _ h => h) _
    ·exact SlR.box1 (hw5.l y hy).2.now hc5 (fun u x hr => by rw [hr.bd.1]; exact fun e => by cases e) (fun _ _ _ h => h) _
   ·rw [← HSE.out]
    exact (HO5.out.far (p := ⟨b5, 0, none⟩) L5.out _).rarr (by have := HW3.out; omega)
def encGet (f : Fil) : List Value := [.int .i64 2, .slice none 0 0, .string f.name, .int .i64 0, .int .i64 0, .int .i64 0, .int .i64 0]
theorem fil_row {w : World} {A : Option Addr} {c : Nat} {L : List Fil} (h : SlR 2 32 RFil w (.slice A L.length c) L) : ∀ k (hk : k < L.length), ∃ b o, A = some ⟨b, o, none⟩ ∧ w.cell? ⟨b, o + k * 2, none⟩ = some (.string L[k].name) ∧ w.cell? ⟨b, o + k * 2 + 1, none⟩ = some (.string L[k].data) := by
 intro k hk
 obtain ⟨A', c', he, _, _, hrow⟩ := h.rowE encFil_ok
 injection he with he1 he2 he3
 subst he1
 obtain ⟨b, o, rfl, hc⟩ := hrow k hk
 exact ⟨b, o, rfl, hc k hk 0 _ rfl, hc k hk 1 _ rfl⟩
theorem gets_any (Av : Option Addr) (cv : Nat) (l : List Fil) (w : World) (h : SlR 2 32 RFil w (.slice Av l.length cv) l) (hl : l.length ≤ 1000) :
  Calls Tryz.prog 17 #[.slice Av l.length cv] w fun e w' => ∃ A c, e = .returned (.slice A l.length c) ∧ Ext w w' ∧ w'.ownsRow w.heap.size 39 7 (.slice A l.length c) l.length (l.flatMap encGet) := by
 have HROW := Lib.hid (fil_row h)
 obtain ⟨i1, hi0, hz0, hz1, hz2⟩ := info_parts info_act
 have HIE := Lib.hid (And.intro hi0 (And.intro hz0 (And.intro hz1 hz2)))
 have hlI : (l.length : Int) ≤ 1000 := by omega
 have HL := Lib.hid hl
 clear h hi0 hz0 hz1 hz2 hl
 go_enter Tryz.func17, Tryz.ntmps17
 go_wp2_with fail
 go_loopw [3, 8] (fun pv kv wr => ∃ (k : Nat) (A : Option Addr) (c : Nat), pv = .slice A k c ∧ kv = .int .i64 k ∧ k ≤ l.length ∧ Ext w wr ∧ wr.ownsRow w.heap.size 39 7 (.slice A k c) k ((l.take k).flatMap encGet)) (fun _ kv _ => l.length - (intOf kv).toNat)
 case atStart => exact ⟨0, none, 0, rfl, rfl, Nat.zero_le _, Ext.refl _, World.ownsRow_nil _ _ _ _⟩
 case round =>
  obtain ⟨k, A, c, rfl, rfl, hk, hx, hown⟩ := hrel
  have HX := Lib.hid hx
  have HOWN := Lib.hid hown
  clear hx hown
  by_cases hlt : k < l.length
  ·have hltI : (k : Int) < (l.length : Int) := by omega
   obtain ⟨b, o, rfl, h0, h1⟩ := HROW.out k hlt
   have r0 := HX.out.cell h0
   have r1 := HX.out.cell h1
   have hfm : (l.take (k + 1)).flatMap encGet = (l.take k).flatMap encGet ++ encGet l[k] := by rw [List.take_succ_eq_append_getElem hlt, List.flatMap_append]; simp
   obtain ⟨nm, hnm⟩ : ∃ s, s = l[k].name := ⟨_, rfl⟩
   obtain ⟨dt, hdt⟩ : ∃ s, s = l[k].data := ⟨_, rfl⟩
   have q0 : wr.cell? ⟨b, o + k * 2, none⟩ = some (.string nm) := by rw [hnm]; exact r0
   have q1 : wr.cell? ⟨b, o + k * 2 + 1, none⟩ = some (.string dt) := by rw [hdt]; exact r1
   have hfl : (l.take (k + 1)).flatMap encGet = (l.take k).flatMap encGet ++ [.int .i64 2, .slice none 0 0, .string nm, .int .i64 0, .int .i64 0, .int .i64 0, .int .i64 0] := by rw [hnm]; exact hfm
   have HFL := Lib.hid hfl
   have HK := Lib.hid hlt
   clear hfl hfm r0 r1 h0 h1 hnm hdt hk hlt
   go_wp2_with (at_builtin; refine wpList_append_at _ rfl (.tmp 12) (.tmp 16) 23 rfl w.heap.size 39 i1 (.agg #[.int .i64 0, .slice none 0 0, .string .empty, .int .i64 0, .int .i64 0, .int .i64 0, .int .i64 0]) 7 80 Tryz.underlying23 HIE.out.1 HIE.out.2.1 HIE.out.2.2.1 HIE.out.2.2.2 rfl (by decide) (.slice A k c) k _ rfl (own_ext HOWN.out (((Ext.refl _).alloc _).alloc _)) ⟨wr.heap.size + 1, 0, none⟩ 1 1 [.int .i64 2, .slice none 0 0, .string nm, .int .i64 0, .int .i64 0, .int .i64 0, .int .i64 0] rfl rfl ?c1 ?c2 ?c3 ?c4 ?c5 ?_)
   case c1 =>
    intro j u hu
    rw [Addr.add_lit, Nat.zero_add, (Blk_.new1 wr _ 39 _).cell]
    simpa using hu
   case c2 =>
    intro u hu
    simp only [List.mem_cons, List.not_mem_nil, or_false] at hu
    rcases hu with rfl | rfl | rfl | rfl | rfl | rfl | rfl <;> rfl
   case c3 => have := HK.out; have := HL.out; unfold maxLen; omega
   case c4 => have := HK.out; have := HL.out; omega
   case c5 => have := HX.out.size; rw [World.size_alloc, World.size_alloc]; omega
   intro A' c' w3 own3 hg3 _
   have HOWN3 := Lib.hid own3
   have HX3 := Lib.hid (((HX.out.alloc _).alloc _).grown hg3 (fun q hq => (HOWN.out.lt _ hq).1))
   clear own3 hg3
   go_wp2_with fail
   go_roundw
   case rel =>
    refine ⟨k + 1, A', c', rfl, by first | rfl | go_num, by have := HK.out; omega, HX3.out, ?_⟩
    rw [HFL.out]
    exact HOWN3.out
   case measure => have := HK.out; (simp [intOf]; try omega)
  ·obtain rfl : k = l.length := by omega
   clear hlt hk
   go_wp2_with fail
   go_ret
   refine ⟨A, c, rfl, HX.out, ?_⟩
   have := HOWN.out
   rw [List.take_length] at this
   exact this
def addAct (L : List Fil) : ActD := ⟨1, L, .empty, 0, 0, 0, 0⟩
def GroupsOk : Nat → List (List Fil) → Prop
 | _, [] => True
 | n, L :: l => FilesOk n L ∧ 1 ≤ L.length ∧ L.length ≤ 2 ∧ GroupsOk (n + L.length) l
theorem GroupsOk.snoc {L : List Fil} : ∀ {Ls : List (List Fil)} {n : Nat}, GroupsOk n Ls → FilesOk (n + Ls.flatten.length) L → 1 ≤ L.length → L.length ≤ 2 → GroupsOk n (Ls ++ [L])
 | [], n, _, h, h1, h2 => ⟨by simpa using h, h1, h2, trivial⟩
 | K :: Ls, n, h, hL, h1, h2 => ⟨h.1, h.2.1, h.2.2.1, GroupsOk.snoc h.2.2.2 (by rw [List.flatten_cons, List.length_append, ← Nat.add_assoc] at hL; exact hL) h1 h2⟩
theorem FilesOk.app0 {first : Nat} {L L' : List Fil} (h : FilesOk first L) (h' : FilesOk (first + L.length) L') : FilesOk first (L ++ L') := by
 intro k hk
 rw [List.length_append] at hk
 by_cases hl : k < L.length
 ·rw [List.getElem_append_left hl]; exact h k hl
 ·rw [List.getElem_append_right (by omega)]
  have := h' (k - L.length) (by omega)
  rw [show first + L.length + (k - L.length) = first + k by omega] at this
  exact this
theorem groups_rise0 : ∀ {Ls : List (List Fil)} {n : Nat}, GroupsOk n Ls → FilesOk n Ls.flatten
 | [], n, _ => fun k hk => absurd hk (Nat.not_lt_zero _)
 | L :: Ls, n, h => by rw [List.flatten_cons]; exact h.1.app0 (groups_rise0 h.2.2.2)
def hurtAct (x : HA) : ActD := ⟨x.kind, [], .empty, x.d, x.n, x.at_, x.by_⟩
def getAct (f : Fil) : ActD := ⟨2, [], f.name, 0, 0, 0, 0⟩
def scrubAct (k : Nat) : ActD := ⟨7, [], .empty, 0, (k : Int), 0, 0⟩
def healthAct : ActD := ⟨8, [], .empty, 0, 0, 0, 0⟩
def listAct : ActD := ⟨3, [], .empty, 0, 0, 0, 0⟩
end Go.Proofs.YtgjijcgkmofaaaaGreatDoor
