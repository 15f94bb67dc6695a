/-
  Files with names that count on, over an archive, in plain Lean: what adding them answers, and what is got then. Conditions: as they say.
-/
import Derived.Test.YtgjijcgkmofaaaaGreatDoorK24
import Derived.LaidSub
import Derived.MakeChecks
import Derived.Lib.LaidTab
namespace Go.Proofs.YtgjijcgkmofaaaaGreatDoor
set_option linter.unusedSimpArgs false
set_option linter.unusedVariables false
open Go.RowKit

theorem fname_may : ∀ n : Fin 10, nameMay (fname n.val) = true := by decide
theorem fname_less : ∀ i j : Fin 10, i.val < j.val → Op.bytesLess (lst (fname i.val)) (lst (fname j.val)) = true := by decide
theorem fname_ne : ∀ i j : Fin 10, i.val ≠ j.val → lst (fname i.val) ≠ lst (fname j.val) := by decide
theorem fname_zz : ∀ i : Fin 10, lst (fname i.val) ≠ [122, 122] := by decide
theorem FilesOk.tail {first : Nat} {f : Fil} {L : List Fil} (h : FilesOk first (f :: L)) : f.name = fname first ∧ f.data.size ≤ 200 ∧ FilesOk (first + 1) L := by
  refine ⟨(h 0 (by simp)).1, (h 0 (by simp)).2, fun k hk => ?_⟩
  have := h (k + 1) (by simpa using hk)
  simp only [List.getElem_cons_succ] at this
  rw [show first + (k + 1) = first + 1 + k by omega] at this
  exact this
theorem FilesOk.cons {first : Nat} {f : Fil} {L : List Fil} (hn : f.name = fname first) (hd : f.data.size ≤ 200) (h : FilesOk (first + 1) L) : FilesOk first (f :: L) := by
  intro k hk
  cases k with
  | zero => exact ⟨hn, hd⟩
  | succ k =>
    have := h k (by simpa using hk)
    rw [show first + (k + 1) = first + 1 + k by omega]
    exact this
theorem FilesOk.head {first : Nat} {L : List Fil} (h : FilesOk first L) (n : Nat) : FilesOk first (L.take n) := by
  intro k hk
  rw [List.getElem_take]
  exact h k (by rw [List.length_take] at hk; omega)
theorem FilesOk.app {first : Nat} {L L' : List Fil} (h : FilesOk first L) (h' : FilesOk (first + L.length) L') : FilesOk first (L ++ L') := by
  intro k hk
  rw [List.length_append] at hk
  by_cases hl : k < L.length
  · rw [List.getElem_append_left hl]; exact h k hl
  · rw [List.getElem_append_right (by omega)]
    have := h' (k - L.length) (by omega)
    rw [show first + L.length + (k - L.length) = first + k by omega] at this
    exact this
theorem filesGo_fresh {first : Nat} {L : List Fil} (hL : FilesOk first L) (hn : first + L.length ≤ 10) (h3 : L.length ≤ 3) : ∀ (m k : Nat) (all : Int), k + m = L.length → all ≤ 200 * (k : Int) → filesGo L m k all = 0
  | 0, k, all, hk, ha => by
    unfold filesGo
    rw [if_neg (by omega)]
  | m + 1, k, all, hk, ha => by
    have hlt : k < L.length := by omega
    obtain ⟨e1, e2⟩ := hL k hlt
    have eg : L.getD k noFil = L[k] := by simp [List.getD, hlt]
    have h1 : nameMay (L.getD k noFil).name = true := by rw [eg, e1]; exact fname_may ⟨first + k, by omega⟩
    have h2 : ¬ 200 < (L.getD k noFil).data.size := by rw [eg]; omega
    have h4 : (L.take k).any (sameName (L.getD k noFil).name) = false := by
      rw [List.any_eq_false]
      intro x hx
      obtain ⟨i, hi, rfl⟩ := List.getElem_of_mem hx
      rw [List.length_take] at hi
      rw [List.getElem_take, eg]
      unfold sameName
      rw [(hL i (by omega)).1, e1]
      have := fname_ne ⟨first + i, by omega⟩ ⟨first + k, by omega⟩ (by show first + i ≠ first + k; omega)
      intro hb
      apply this
      have hb' := eq_of_beq hb
      have hl : ∀ s : ByteArray, s.toList = lst s := fun s => by unfold lst; exact ByteArray.toList_eq s
      rw [hl, hl] at hb'
      exact hb'
    unfold filesGo
    rw [if_neg (by rw [h1]; decide), if_neg h2, h4, if_neg (by decide)]
    exact filesGo_fresh hL hn h3 m (k + 1) _ (by omega) (by rw [eg]; omega)
theorem filesS_fresh {first : Nat} {L : List Fil} (hL : FilesOk first L) (h1 : 1 ≤ L.length) (h3 : L.length ≤ 3) (hn : first + L.length ≤ 10) : filesS L = 0 := by
  unfold filesS
  rw [if_pos ⟨h1, by omega⟩]
  exact filesGo_fresh hL hn h3 L.length 0 0 (by omega) (by omega)
/-- Names below a number. -/
def Below_ (n : Nat) (es : List Ent) : Prop := ∀ y ∈ es, ∃ j, j < n ∧ y.name = fname j
theorem add_fresh {nb : Nat} : ∀ (L : List Fil) (first p : Nat) (es : List Ent), FilesOk first L → first + L.length ≤ 10 → Below_ first es →
    Up nb es p L ∧ addE nb es p L = some (es ++ newE nb p L) ∧ Below_ (first + L.length) (es ++ newE nb p L)
  | [], first, p, es, _, _, he => ⟨trivial, by simp [addE, newE], by simpa [newE] using he⟩
  | f :: l, first, p, es, hL, hn, he => by
    obtain ⟨e1, e2, hl⟩ := hL.tail
    rw [List.length_cons] at hn
    have hless : ∀ y ∈ es, Op.bytesLess (lst y.name) (lst f.name) = true := by
      intro y hy
      obtain ⟨j, hj, ej⟩ := he y hy
      rw [ej, e1]
      exact fname_less ⟨j, by omega⟩ ⟨first, by omega⟩ hj
    have hany : es.any (fun y => decide (lst y.name = lst f.name)) = false := by
      rw [List.any_eq_false]
      intro y hy
      obtain ⟨j, hj, ej⟩ := he y hy
      rw [ej, e1]
      have := fname_ne ⟨j, by omega⟩ ⟨first, by omega⟩ (by show j ≠ first; omega)
      simpa using this
    have hins : insE ⟨f.name, nb, p, f.data.size⟩ es = es ++ [⟨f.name, nb, p, f.data.size⟩] := by
      have := insE_split (x := (⟨f.name, nb, p, f.data.size⟩ : Ent)) es [] hless
      rw [List.append_nil] at this
      exact this
    have he' : Below_ (first + 1) (es ++ [⟨f.name, nb, p, f.data.size⟩]) := by
      intro y hy
      rcases List.mem_append.1 hy with hy | hy
      · obtain ⟨j, hj, ej⟩ := he y hy; exact ⟨j, by omega, ej⟩
      · obtain rfl := List.mem_singleton.1 hy; exact ⟨first, by omega, e1⟩
    obtain ⟨i1, i2, i3⟩ := add_fresh l (first + 1) (p + f.data.size) _ hl (by omega) he'
    refine ⟨.inr ⟨hless, i1⟩, ?_, ?_⟩
    · unfold addE
      rw [hany, if_neg (by decide), hins, i2, newE_cons, List.append_assoc]
      rfl
    · rw [newE_cons, List.length_cons, show first + (l.length + 1) = first + 1 + l.length by omega]
      rw [List.append_assoc] at i3
      exact i3
theorem newE_names (nb : Nat) : ∀ (p : Nat) (l : List Fil), (newE nb p l).map (·.name) = l.map (·.name)
  | _, [] => rfl
  | p, f :: l => by rw [newE_cons, List.map_cons, List.map_cons, newE_names nb]
/-- An add is taken, or there is no room. -/
theorem addS_code {a : List Dev} {m k0 : Nat} {all : List ByteArray} {c : Cat} {D : Nat → ByteArray} (ha : Arch all m c D) (h : Part a m all) (ho : Ones a m k0) (h16 : 16 ≤ m) (h64 : m ≤ 64) (h2 : m % 2 = 0) {l : List Fil} (hf : filesS l = 0) {es : List Ent} (hae : addE c.blocks.length c.entries 0 l = some es) :
    (addS a l).2 = 0 ∨ (addS a l).2 = 8 := by
  have hop := ha.openS h h16 h64 h2 (fun i hi => ho.code h h16 h64 h2 (by omega))
  have hge := catFault_blk ha.ok
  unfold addS
  rw [hop]
  dsimp only
  rw [if_neg (by decide), if_neg (by simpa using hf), hae]
  dsimp only
  by_cases hfull : 10 < es.length ∨ c.blocks.length = 10 ∨ ((dv a 0).sec.length : Int) < nextAt 8 c.blocks + secs (packS (dataS l)).1.size
  · rw [if_pos hfull]; exact .inr rfl
  · rw [if_neg hfull]
    left
    have hn1 : ¬ 10 < es.length := fun e => hfull (.inl e)
    have hn2 : c.blocks.length ≠ 10 := fun e => hfull (.inr (.inl e))
    have hn3 : ¬ ((dv a 0).sec.length : Int) < nextAt 8 c.blocks + secs (packS (dataS l)).1.size := fun e => hfull (.inr (.inr e))
    have hok := addCat_ok (n := (dv a 0).sec.length) ha.ok hf hae hn1 hn2 hn3 (by rw [h.good.l0]; exact h64)
    obtain ⟨hd1, hd2, hd3⟩ := data_ok hf
    rw [h.good.l0] at hn3
    obtain ⟨s, hs⟩ : ∃ s, s = (packS (dataS l)).1 := ⟨_, rfl⟩
    rw [← hs] at hn3 hok hd3 ⊢
    obtain ⟨f, hfe⟩ : ∃ f : Nat, nextAt 8 c.blocks = (f : Int) := ⟨(nextAt 8 c.blocks).toNat, by omega⟩
    have hfit : f + (s.size + 23) / 24 ≤ m := by unfold secs at hn3; omega
    have hct := catText_size hok
    have hw1 := sw_good (a := a) (first := (f : Int)) (s := s) (fault_none (h.good.may h16 h2) ⟨by omega, by omega⟩ (by have : (dv a 0).sec.length = m := h.good.l0; omega))
    obtain ⟨o1, p1⟩ := ones_sw h16 h64 h2 f s ((s.size + 23) / 24) 0 a all ho h (by omega)
    rw [hfe, hw1]
    dsimp only
    have hw2 := sw_good (a := streamWriteLoop ((s.size + 23) / 24) 0 a (f : Int) s) (first := ((0 : Nat) : Int)) (s := catText (addCat c es s)) (fault_none (p1.good.may h16 h2) ⟨by omega, by omega⟩ (by have : (dv (streamWriteLoop ((s.size + 23) / 24) 0 a (f : Int) s) 0).sec.length = m := p1.good.l0; omega))
    have hw2' : streamWriteS (streamWriteLoop ((s.size + 23) / 24) 0 a (f : Int) s) 0 (catText (addCat c es s)) = (streamWriteLoop (((catText (addCat c es s)).size + 23) / 24) 0 (streamWriteLoop ((s.size + 23) / 24) 0 a (f : Int) s) ((0 : Nat) : Int) (catText (addCat c es s)), 0) := hw2
    rw [hw2']
/-- A name that is there is refused. -/
theorem addS_twiceA {a : List Dev} {m k0 : Nat} {all : List ByteArray} {c : Cat} {D : Nat → ByteArray} (ha : Arch all m c D) (h : Part a m all) (ho : Ones a m k0) (h16 : 16 ≤ m) (h64 : m ≤ 64) (h2 : m % 2 = 0) {l : List Fil} (hf : filesS l = 0) (hae : addE c.blocks.length c.entries 0 l = none) :
    addS a l = ([], 7) := by
  have hop := ha.openS h h16 h64 h2 (fun i hi => ho.code h h16 h64 h2 (by omega))
  unfold addS
  rw [hop]
  dsimp only
  rw [if_neg (by decide), if_neg (by simpa using hf), hae]
theorem Full.ones {a : List Dev} {m : Nat} {all : List ByteArray} (h : Full a m all) (h64 : m ≤ 64) (k : Nat) : Ones a m k := by
  obtain ⟨r0, r1, r2⟩ := h.reads h64
  intro i p hi _ hp
  match i, hi with
  | 0, _ => show (readS (dv a 0) p p).2 = 0; rw [r0 p (by simpa using hp)]
  | 1, _ => show (readS (dv a 1) p p).2 = 0; rw [r1 p (by simpa using hp)]
  | 2, _ => show (readS (dv a 2) p (512 + p : Int)).2 = 0; rw [r2 p (by simpa using hp)]
def zero24 : ByteArray := bs (List.replicate 24 0)
theorem catFault_no : catFault noCat = 0 := by decide
set_option maxRecDepth 100000 in
theorem catText_no : catText noCat = bs (List.replicate 192 0) := by
  have e : (encCatS noCat).1 = bs [0, 0] := by unfold encCatS; rw [if_pos catFault_no]; rfl
  unfold catText
  rw [e]
  decide
set_option maxRecDepth 100000 in
theorem arch_new (m : Nat) (h8 : 8 ≤ m) (D : Nat → ByteArray) : Arch (List.replicate m zero24) m noCat D := by
  refine ⟨catFault_no, ?_, by show (8 : Int) ≤ m; omega, fun k hk => absurd hk (by simp [noCat]), fun x hx => absurd hx (by simp [noCat])⟩
  rw [catText_no]
  intro i hi
  have hi : i < 8 := by rw [size_bs, List.length_replicate] at hi; omega
  have e : pl (List.replicate m zero24) (0 + i) = zero24 := by
    unfold pl
    rw [List.getD_eq_getElem?_getD, List.getElem?_replicate, if_pos (by omega)]; rfl
  rw [e]
  have hc : i = 0 ∨ i = 1 ∨ i = 2 ∨ i = 3 ∨ i = 4 ∨ i = 5 ∨ i = 6 ∨ i = 7 := by omega
  rcases hc with rfl | rfl | rfl | rfl | rfl | rfl | rfl | rfl <;> decide
end Go.Proofs.YtgjijcgkmofaaaaGreatDoor

/-
  An archive to which files with names that count on were added: each file that was taken is got as it was, others are not. Conditions: as they say.
-/
namespace Go.Proofs.YtgjijcgkmofaaaaGreatDoor
set_option linter.unusedSimpArgs false
set_option linter.unusedVariables false
open Go.RowKit

theorem fname_inj {i j : Nat} (hi : i < 10) (hj : j < 10) (h : lst (fname i) = lst (fname j)) : i = j := by
  by_cases e : i = j
  · exact e
  · exact absurd h (fname_ne ⟨i, hi⟩ ⟨j, hj⟩ e)
/-- The payloads hold an archive of these files, with names below a number. -/
structure Told (all : List ByteArray) (m : Nat) (c : Cat) (D : Nat → ByteArray) (G : List Fil) (n : Nat) : Prop where
  arch : Arch all m c D
  names : c.entries.map (·.name) = G.map (·.name)
  data : ∀ f ∈ G, ∀ x ∈ c.entries, lst x.name = lst f.name → (D x.block.toNat).extract x.at_.toNat (x.at_ + x.bytes).toNat = f.data
  below : Below_ n c.entries
theorem told_new (m : Nat) (h8 : 8 ≤ m) : Told (List.replicate m zero24) m noCat (fun _ => .empty) [] 0 :=
  ⟨arch_new m h8 _, rfl, fun f hf => absurd hf (by simp), fun y hy => absurd hy (by simp [noCat])⟩
theorem Told.low {all : List ByteArray} {m : Nat} {c : Cat} {D : Nat → ByteArray} {G : List Fil} {n : Nat} (h : Told all m c D G n) : ∀ f ∈ G, ∃ j, j < n ∧ f.name = fname j := by
  intro f hf
  have : f.name ∈ c.entries.map (·.name) := by rw [h.names]; exact List.mem_map_of_mem hf
  obtain ⟨x, hx, e⟩ := List.mem_map.1 this
  obtain ⟨j, hj, ej⟩ := h.below x hx
  exact ⟨j, hj, by rw [← e]; exact ej⟩
theorem Told.more {all : List ByteArray} {m : Nat} {c : Cat} {D : Nat → ByteArray} {G : List Fil} {n n' : Nat} (h : Told all m c D G n) (hn : n ≤ n') : Told all m c D G n' :=
  ⟨h.arch, h.names, h.data, fun y hy => by obtain ⟨j, hj, e⟩ := h.below y hy; exact ⟨j, by omega, e⟩⟩
theorem Told.add {a : List Dev} {m k0 : Nat} {all : List ByteArray} {c : Cat} {D : Nat → ByteArray} {G : List Fil} {n : Nat} (ht : Told all m c D G n) (h : Part a m all) (ho : Ones a m k0) (h16 : 16 ≤ m) (h64 : m ≤ 64) (h2 : m % 2 = 0) {L : List Fil} (hL : FilesOk n L) (hn : n + L.length ≤ 10) (hc : (addS a L).2 = 0) :
    Part (addS a L).1 m (addG a all L) ∧ Ones (addS a L).1 m k0 ∧ Told (addG a all L) m (addCat c (c.entries ++ newE c.blocks.length 0 L) (packS (dataS L)).1) (addD c.blocks.length D L) (G ++ L) (n + L.length) := by
  obtain ⟨es, he, hf, hp, hon, ha⟩ := ht.arch.add h ho h16 h64 h2 hc
  obtain ⟨_, h2', h3⟩ := add_fresh (nb := c.blocks.length) L n 0 c.entries hL hn ht.below
  rw [h2'] at he
  obtain rfl := Option.some.inj he
  refine ⟨hp, hon, ha, ?_, ?_, h3⟩
  · show (c.entries ++ newE c.blocks.length 0 L).map (·.name) = _
    rw [List.map_append, List.map_append, newE_names, ht.names]
  · intro f hf' x hx hname
    have hx : x ∈ c.entries ++ newE c.blocks.length 0 L := hx
    obtain ⟨_, _, _, f4⟩ := catFault_ok ht.arch.ok
    rcases List.mem_append.1 hx with hx | hx
    · rcases List.mem_append.1 hf' with hf' | hf'
      · have hb := entBad_false (entsF_ok _ _ _ f4 x hx)
        have e : addD c.blocks.length D L x.block.toNat = D x.block.toNat := by unfold addD; rw [if_neg (by omega)]
        rw [e]
        exact ht.data f hf' x hx hname
      · exfalso
        obtain ⟨i, hi, rfl⟩ := List.getElem_of_mem hf'
        obtain ⟨j, hj, ej⟩ := ht.below x hx
        rw [ej, (hL i hi).1] at hname
        have := fname_inj (by omega) (by omega) hname
        omega
    · obtain ⟨g, hg, e1, e2, e3, q, e4, e5, e6⟩ := newE_data L 0 x hx
      rcases List.mem_append.1 hf' with hf' | hf'
      · exfalso
        obtain ⟨i, hi, rfl⟩ := List.getElem_of_mem hg
        obtain ⟨j, hj, ej⟩ := ht.low f hf'
        rw [e1, ej, (hL i hi).1] at hname
        have := fname_inj (by omega) (by omega) hname
        omega
      · obtain ⟨i, hi, rfl⟩ := List.getElem_of_mem hg
        obtain ⟨j, hj, rfl⟩ := List.getElem_of_mem hf'
        rw [e1, (hL i hi).1, (hL j hj).1] at hname
        have hij := fname_inj (by omega) (by omega) hname
        obtain rfl : i = j := by omega
        have ed : addD c.blocks.length D L x.block.toNat = dataS L := by unfold addD; rw [if_pos (by rw [e2]; simp)]
        rw [ed, e4, e3]
        have t1 : ((0 + q : Nat) : Int).toNat = q := by omega
        have t2 : (((0 + q : Nat) : Int) + (L[i].data.size : Int)).toNat = q + L[i].data.size := by omega
        rw [t1, t2]
        have e7 := take_drop (dataS L) q L[i].data.size
        rw [show lst (dataS L) = L.flatMap (fun g => lst g.data) from lst_bs _, e6] at e7
        rw [← bs_lst ((dataS L).extract q (q + L[i].data.size)), ← e7, bs_lst]
/-- A file that was added is got. -/
theorem Told.get {a : List Dev} {m : Nat} {all : List ByteArray} {c : Cat} {D : Nat → ByteArray} {G : List Fil} {n : Nat} (ht : Told all m c D G n) (h : Part a m all) (h16 : 16 ≤ m) (h64 : m ≤ 64) (h2 : m % 2 = 0) (hr : ∀ i : Nat, i < m → (arrReadS a i).2.2 = 0) {f : Fil} (hf : f ∈ G) :
    getS a f.name = (f.data, 0) := by
  have hg := ht.arch.getS h h16 h64 h2 hr f.name
  cases hfd : c.entries.find? (fun x => decide (lst x.name = lst f.name)) with
  | none =>
    exfalso
    have hm : f.name ∈ c.entries.map (·.name) := by rw [ht.names]; exact List.mem_map_of_mem hf
    obtain ⟨x, hx, e⟩ := List.mem_map.1 hm
    have := List.find?_eq_none.1 hfd x hx
    simp only [decide_eq_true_eq] at this
    exact this (by rw [← e])
  | some x =>
    rw [hfd] at hg
    rw [hg]
    have hx := List.mem_of_find?_eq_some hfd
    have hn := List.find?_some hfd
    simp only [decide_eq_true_eq] at hn
    dsimp only
    rw [ht.data f hf x hx hn]
/-- A name that no file has is not got. -/
theorem Told.gone {a : List Dev} {m : Nat} {all : List ByteArray} {c : Cat} {D : Nat → ByteArray} {G : List Fil} {n : Nat} (ht : Told all m c D G n) (h : Part a m all) (h16 : 16 ≤ m) (h64 : m ≤ 64) (h2 : m % 2 = 0) (hr : ∀ i : Nat, i < m → (arrReadS a i).2.2 = 0) {name : ByteArray} (hf : ∀ f ∈ G, lst f.name ≠ lst name) :
    getS a name = (.empty, 6) := by
  have hg := ht.arch.getS h h16 h64 h2 hr name
  cases hfd : c.entries.find? (fun x => decide (lst x.name = lst name)) with
  | none => rw [hfd] at hg; exact hg
  | some x =>
    exfalso
    have hx := List.mem_of_find?_eq_some hfd
    have hn := List.find?_some hfd
    simp only [decide_eq_true_eq] at hn
    have : x.name ∈ G.map (·.name) := by rw [← ht.names]; exact List.mem_map_of_mem hx
    obtain ⟨f, hf', e⟩ := List.mem_map.1 this
    exact hf f hf' (by rw [e]; exact hn)
end Go.Proofs.YtgjijcgkmofaaaaGreatDoor

/-
  slices.IsSorted at strings that rise. Conditions: as they say.
-/
namespace Go.Proofs.YtgjijcgkmofaaaaGreatDoor
set_option linter.unusedSimpArgs false
set_option linter.unusedVariables false
open Go.RowKit

set_option maxRecDepth 100000 in
theorem nan_any (x : ByteArray) (w : World) : Calls Tryz.prog 95 #[.string x] w fun e w' => e = .returned (.bool false) ∧ w' = w := by
  go_enter Tryz.func95, Tryz.ntmps95
  go_wp2_with fail
  go_ret
  exact ⟨by simp, rfl⟩
set_option maxRecDepth 100000 in
set_option maxHeartbeats 4000000 in
theorem less_any (x y : ByteArray) (w : World) : Calls Tryz.prog 61 #[.string x, .string y] w fun e w' => e = .returned (.bool (Op.bytesLess (lst x) (lst y))) ∧ Ext w w' := by
  go_enter Tryz.func61, Tryz.ntmps61
  go_wp2_with fail
  refine (nan_any x w).mono ?_
  rintro e w1 ⟨rfl, rfl⟩
  go_wp2_with fail
  go_ret
  refine ⟨?_, Ext.refl _⟩
  show Ending.returned (.bool (Op.bytesLess x.toList y.toList)) = _
  rw [toList_lst, toList_lst]
set_option maxRecDepth 100000 in
set_option maxHeartbeats 4000000 in
theorem sorted_any (v : Value) (l : List ByteArray) (w : World) (h : SlR 1 16 RStr w v l) (hr : ∀ k (hk : k + 1 < l.length), Op.bytesLess (lst l[k + 1]) (lst l[k]) = false) :
    Calls Tryz.prog 27 #[v] w fun e w' => e = .returned (.bool true) ∧ Ext w w' := by
  obtain ⟨A, c, rfl, hl, hc, r1⟩ := h.row
  clear h
  have HR := Lib.hid hr
  clear hr
  go_enter Tryz.func27, Tryz.ntmps27
  go_wp2_with fail
  go_loopw [3] (fun i wr => ∃ k : Int, i = .int .i64 k ∧ -1 ≤ k ∧ k < l.length ∧ Ext w wr) (fun i _ => (intOf i + 1).toNat)
  case atStart => exact ⟨(l.length : Int) - 1, by first | rfl | go_num, by omega, by omega, Ext.refl _⟩
  case round =>
    obtain ⟨k, rfl, hk0, hk, hx⟩ := hrel
    have HX := Lib.hid hx
    clear hx
    by_cases hp : 0 < k
    · obtain ⟨q, rfl⟩ : ∃ q : Nat, k = ((q + 1 : Nat) : Int) := ⟨(k - 1).toNat, by omega⟩
      have hlt : q + 1 < l.length := by omega
      obtain ⟨b, o, rfl, g1⟩ := r1 _ hlt
      obtain ⟨u1, q1, t1⟩ := g1 _ hlt
      obtain ⟨u0, q0, t0⟩ := g1 q (by omega)
      obtain rfl := t1.val
      obtain rfl := t0.val
      obtain ⟨s1, hs1⟩ : ∃ s, s = l[q + 1] := ⟨_, rfl⟩
      obtain ⟨s0, hs0⟩ : ∃ s, s = l[q] := ⟨_, rfl⟩
      have HLE := Lib.hid (show Op.bytesLess (lst s1) (lst s0) = false by rw [hs1, hs0]; exact HR.out q hlt)
      rw [← hs1] at q1
      rw [← hs0] at q0
      have HC1 := Lib.hid (HX.out.cell q1)
      have HC0 := Lib.hid (HX.out.cell q0)
      have HR1 := Lib.hid r1
      have hqI : ((q + 1 : Nat) : Int) < (l.length : Int) := by omega
      have hlI : (l.length : Int) ≤ 140737488355328 := by omega
      have HQ := Lib.hid hqI
      have hq1 : 0 ≤ (q : Int) + 1 := by omega
      have hq2 : (q : Int) + 1 < (l.length : Int) := by omega
      have hq3 : q < l.length := by omega
      clear g1 q1 q0 t1 t0 r1 hs1 hs0 hk0 hk hp hlt
      go_wp2_with fail
      refine wp_region_vals (F := ?_) ?_ [(fun (v : Value) (_ : World) => v = .slice (some ⟨b, o, none⟩) l.length c), (fun (v : Value) (_ : World) => v = .int .i64 ((q + 1 : Nat) : Int)), (fun (v : Value) (_ : World) => v = .pointer (some ⟨b, o + (q + 1), none⟩)), (fun (v : Value) (_ : World) => v = .string s1), (fun (v : Value) (_ : World) => v = .slice (some ⟨b, o, none⟩) l.length c), (fun (v : Value) (_ : World) => v = .int .i64 ((q + 1 : Nat) : Int)), (fun (v : Value) (_ : World) => v = .int .i64 (q : Int)), (fun (v : Value) (_ : World) => v = .pointer (some ⟨b, o + q, none⟩)), (fun (v : Value) (_ : World) => v = .string s0), (fun (v : Value) (_ : World) => v = .bool false)] (by kernel_rfl) (by kernel_rfl) ?_ ?_ ?_
      rotate_left
      · intro vals
        simp only [putAll, Act.put, List.setIfInBounds_toArray, List.set_cons_zero, List.set_cons_succ, Nat.zero_add, Nat.reduceAdd]
        rfl
      · simp only [List.forall_mem_cons]
        exact ⟨fun _ _ _ h _ => h, fun _ _ _ h _ => h, fun _ _ _ h _ => h, fun _ _ _ h _ => h, fun _ _ _ h _ => h, fun _ _ _ h _ => h, fun _ _ _ h _ => h, fun _ _ _ h _ => h, fun _ _ _ h _ => h, fun _ _ _ h _ => h, fun _ h => (by cases h)⟩
      · refine ⟨?_, ?_, ?_, ?_, ?_, ?_, ?_, ?_, ?_, ?_, trivial⟩
        · intro vals W e hd ho K hK
          refine st_quiet (v := ?_) ?_ ?_
          rotate_left
          · go_simp
            rfl
          exact hK _ _ _ rfl (by first | exact rfl | exact congrArg (Value.int _) (by first | (rw [IntKind.wrap_i64]; omega) | (rw [IntKind.wrap_u8]; omega) | omega)) (Ext.refl _)
        · intro vals W e hd ho K hK
          refine st_quiet (v := ?_) ?_ ?_
          rotate_left
          · go_simp
            rfl
          exact hK _ _ _ rfl (by first | exact rfl | exact congrArg (Value.int _) (by first | (rw [IntKind.wrap_i64]; omega) | (rw [IntKind.wrap_u8]; omega) | omega)) (Ext.refl _)
        · intro vals W e hd ho K hK
          have h0 : vals 0 = .slice (some ⟨b, o, none⟩) l.length c := hd 0 (by kernel_rfl)
          have h1 : vals 1 = .int .i64 ((q + 1 : Nat) : Int) := hd 1 (by kernel_rfl)
          refine st_quiet (v := ?_) ?_ ?_
          rotate_left
          · go_simp
            rfl
          exact hK _ _ _ rfl (by first | exact rfl | exact congrArg (Value.int _) (by first | (rw [IntKind.wrap_i64]; omega) | (rw [IntKind.wrap_u8]; omega) | omega)) (Ext.refl _)
        · intro vals W e hd ho K hK
          have h2 : vals 2 = .pointer (some ⟨b, o + (q + 1), none⟩) := hd 2 (by kernel_rfl)
          have cc := (Ext.refl wr).drew.cell (HC1.out)
          have cc2 := e.cell cc
          refine st_quiet (v := ?_) ?_ ?_
          rotate_left
          · go_simp
            rfl
          exact hK _ _ _ rfl rfl (Ext.refl _)
        · intro vals W e hd ho K hK
          refine st_quiet (v := ?_) ?_ ?_
          rotate_left
          · go_simp
            rfl
          exact hK _ _ _ rfl (by first | exact rfl | exact congrArg (Value.int _) (by first | (rw [IntKind.wrap_i64]; omega) | (rw [IntKind.wrap_u8]; omega) | omega)) (Ext.refl _)
        · intro vals W e hd ho K hK
          refine st_quiet (v := ?_) ?_ ?_
          rotate_left
          · go_simp
            rfl
          exact hK _ _ _ rfl (by first | exact rfl | exact congrArg (Value.int _) (by first | (rw [IntKind.wrap_i64]; omega) | (rw [IntKind.wrap_u8]; omega) | omega)) (Ext.refl _)
        · intro vals W e hd ho K hK
          have h5 : vals 5 = .int .i64 ((q + 1 : Nat) : Int) := hd 5 (by kernel_rfl)
          refine st_quiet (v := ?_) ?_ ?_
          rotate_left
          · go_simp
            rfl
          exact hK _ _ _ rfl (by first | exact rfl | exact congrArg (Value.int _) (by first | (rw [IntKind.wrap_i64]; omega) | (rw [IntKind.wrap_u8]; omega) | omega)) (Ext.refl _)
        · intro vals W e hd ho K hK
          have h4 : vals 4 = .slice (some ⟨b, o, none⟩) l.length c := hd 4 (by kernel_rfl)
          have h6 : vals 6 = .int .i64 (q : Int) := hd 6 (by kernel_rfl)
          refine st_quiet (v := ?_) ?_ ?_
          rotate_left
          · go_simp
            rfl
          exact hK _ _ _ rfl (by first | exact rfl | exact congrArg (Value.int _) (by first | (rw [IntKind.wrap_i64]; omega) | (rw [IntKind.wrap_u8]; omega) | omega)) (Ext.refl _)
        · intro vals W e hd ho K hK
          have h7 : vals 7 = .pointer (some ⟨b, o + q, none⟩) := hd 7 (by kernel_rfl)
          have cc := (Ext.refl wr).drew.cell (HC0.out)
          have cc2 := e.cell cc
          refine st_quiet (v := ?_) ?_ ?_
          rotate_left
          · go_simp
            rfl
          exact hK _ _ _ rfl rfl (Ext.refl _)
        · intro vals W e hd ho K hK
          have h3 : vals 3 = .string s1 := hd 3 (by kernel_rfl)
          have h8 : vals 8 = .string s0 := hd 8 (by kernel_rfl)
          go_wp2_with fail
          refine (less_any s1 s0 _).mono ?_
          rintro e' u' ⟨rfl, hx'⟩
          rw [HLE.out]
          exact hK _ _ _ (by first | rfl | (simp only [h3, h8]; rfl)) rfl hx'
      intro vals W e hall
      have h9 : vals 9 = .bool false := hall 9 (by decide)
      have HX2 := Lib.hid (HX.out.drew.trans e)
      clear hall e
      rw [h9]
      go_wp2_with fail
      go_roundw
      case rel => exact ⟨(q : Int), by first | rfl | go_num, by omega, by omega, HX2.out⟩
      case measure => (simp [intOf]; try omega)
    · have hkI : k ≤ 0 := by omega
      clear r1
      go_wp2_with fail
      go_ret
      exact ⟨rfl, HX.out⟩
end Go.Proofs.YtgjijcgkmofaaaaGreatDoor

/-
  What the law ArchivesBack asks of an archive to which files were added, in plain Lean. Conditions: as they say.
-/
namespace Go.Proofs.YtgjijcgkmofaaaaGreatDoor
set_option linter.unusedSimpArgs false
set_option linter.unusedVariables false
open Go.RowKit

theorem fname_nless : ∀ i j : Fin 10, j.val < i.val → Op.bytesLess (lst (fname i.val)) (lst (fname j.val)) = false := by decide
theorem new_arr {m : Nat} (h16 : 16 ≤ m) (h64 : m ≤ 64) (h2 : m % 2 = 0) : newArrS (m : Int) = ([freshDev m 0, freshDev m 0, freshDev (m / 2) 512], 0) := by
  unfold newArrS
  have h1 : (inB (m : Int) 16 64 && decide ((m : Int) % 2 = 0)) = true := by
    unfold inB
    simp only [Bool.and_eq_true, decide_eq_true_eq]
    omega
  rw [if_pos h1, Int.toNat_natCast, show ((m : Int) / 2).toNat = m / 2 by omega]
theorem names_rise {L : List Fil} {first : Nat} (hL : FilesOk first L) (hn : first + L.length ≤ 10) : ∀ k (hk : k + 1 < (L.map (·.name)).length), Op.bytesLess (lst (L.map (·.name))[k + 1]) (lst (L.map (·.name))[k]) = false := by
  intro k hk
  have hk' : k + 1 < L.length := by simpa using hk
  rw [List.getElem_map, List.getElem_map, (hL (k + 1) hk').1, (hL k (by omega)).1]
  exact fname_nless ⟨first + (k + 1), by omega⟩ ⟨first + k, by omega⟩ (by show first + k < first + (k + 1); omega)
theorem back_facts {m : Nat} (h16 : 16 ≤ m) (h64 : m ≤ 64) (h2 : m % 2 = 0) {L : List Fil} (hL : FilesOk 0 L) (h1 : 1 ≤ L.length) (h3 : L.length ≤ 3) :
    (newArrS (m : Int)).2 = 0 ∧ (newArrS (m : Int)).1.length = 3 ∧ catFault (openS (newArrS (m : Int)).1).1 = 0 ∧ arrMay (newArrS (m : Int)).1 = true ∧ Up (openS (newArrS (m : Int)).1).1.blocks.length (openS (newArrS (m : Int)).1).1.entries 0 L ∧
    ((addS (newArrS (m : Int)).1 L).2 = 8 ∨ ((addS (newArrS (m : Int)).1 L).2 = 0 ∧ ∃ x, x = (addS (newArrS (m : Int)).1 L).1 ∧ x.length = 3 ∧ catFault (openS x).1 = 0 ∧ arrMay x = true ∧ Up (openS x).1.blocks.length (openS x).1.entries 0 (L.take 1) ∧ addS x (L.take 1) = ([], 7) ∧ (openS x).2 = 0 ∧
      namesL (openS x).1 = L.map (·.name) ∧ getS x ⟨#[122, 122]⟩ = (.empty, 6) ∧ ∀ f ∈ L, getS x f.name = (f.data, 0))) := by
  have hf := full_new h16 h64 h2
  rw [new_arr h16 h64 h2]
  obtain ⟨a, ha⟩ : ∃ a, a = [freshDev m 0, freshDev m 0, freshDev (m / 2) 512] := ⟨_, rfl⟩
  rw [← ha] at hf
  dsimp only
  rw [← ha]
  have hf' : Full a m (List.replicate m zero24) := hf
  have hp := hf'.part h64
  have ho := hf'.ones h64 0
  have ht := told_new m (by omega)
  have hop := ht.arch.openS hp h16 h64 h2 (fun i hi => ho.code hp h16 h64 h2 (by omega))
  obtain ⟨u1, u2, u3⟩ := add_fresh (nb := (noCat.blocks).length) L 0 0 noCat.entries hL (by omega) ht.below
  have hfs := filesS_fresh hL h1 h3 (by omega)
  refine ⟨rfl, by rw [ha]; rfl, by rw [hop]; exact catFault_no, hp.good.may h16 h2, by rw [hop]; exact u1, ?_⟩
  rcases addS_code ht.arch hp ho h16 h64 h2 hfs u2 with hc | hc
  · right
    refine ⟨hc, _, rfl, ?_⟩
    obtain ⟨p1, o1, t1⟩ := ht.add hp ho h16 h64 h2 hL (by omega) hc
    obtain ⟨x, hx⟩ : ∃ x, x = (addS a L).1 := ⟨_, rfl⟩
    rw [← hx] at p1 o1 ⊢
    have hr : ∀ i : Nat, i < m → (arrReadS x i).2.2 = 0 := fun i hi => o1.code p1 h16 h64 h2 hi
    have ho1 := t1.arch.openS p1 h16 h64 h2 (fun i hi => hr i (by omega))
    obtain ⟨f, l, rfl⟩ : ∃ f l, L = f :: l := by cases L with | nil => exact absurd h1 (by simp) | cons f l => exact ⟨f, l, rfl⟩
    have ht1 : (f :: l).take 1 = [f] := rfl
    have hF : FilesOk 0 [f] := by rw [← ht1]; exact hL.head 1
    have hfs1 := filesS_fresh hF (by simp) (by simp) (by simp)
    have hmem : ∃ y ∈ (addCat noCat (noCat.entries ++ newE noCat.blocks.length 0 (f :: l)) (packS (dataS (f :: l))).1).entries, lst y.name = lst f.name :=
      ⟨⟨f.name, noCat.blocks.length, 0, f.data.size⟩, List.mem_cons_self, rfl⟩
    refine ⟨p1.good.len, by rw [ho1]; exact t1.arch.ok, p1.good.may h16 h2, by rw [ho1, ht1]; exact .inl hmem, ?_, by rw [ho1], ?_, ?_, fun g hg => t1.get p1 h16 h64 h2 hr (by simpa using hg)⟩
    · rw [ht1]
      refine addS_twiceA t1.arch p1 o1 h16 h64 h2 hfs1 ?_
      obtain ⟨y, hy, e⟩ := hmem
      unfold addE
      rw [if_pos (List.any_eq_true.2 ⟨y, hy, by simpa using e⟩)]
    · rw [ho1]
      show (addCat noCat (noCat.entries ++ newE noCat.blocks.length 0 (f :: l)) (packS (dataS (f :: l))).1).entries.map (·.name) = _
      rw [t1.names]; rfl
    · refine t1.gone p1 h16 h64 h2 hr (fun g hg => ?_)
      obtain ⟨j, hj, e⟩ := t1.low g hg
      rw [e]
      have : 0 + (f :: l).length ≤ 10 := by omega
      exact fname_zz ⟨j, by omega⟩
  · exact .inl hc
end Go.Proofs.YtgjijcgkmofaaaaGreatDoor

/-
  The table of powers of ten, out of what a law's row lists. Conditions: none.
-/
namespace Go.Proofs.YtgjijcgkmofaaaaGreatDoor
open Go.RowKit

theorem tab_of_laid5 {W : World} (h : laidMetH Tryz.prog [("math/bits.deBruijn32tab", Rows.laid_math_bits_deBruijn32tab), ("math/bits.deBruijn64tab", Rows.laid_math_bits_deBruijn64tab), ("internal/strconv.uint64pow10", Rows.laid_internal_strconv_uint64pow10), ("unicode/utf8.acceptRanges", Rows.laid_unicode_utf8_acceptRanges), ("unicode/utf8.first", Rows.laid_unicode_utf8_first)] W) : Tab W := by
  have h1 := h.filter (fun x => x.1 == "internal/strconv.uint64pow10")
  rw [show ([("math/bits.deBruijn32tab", Rows.laid_math_bits_deBruijn32tab), ("math/bits.deBruijn64tab", Rows.laid_math_bits_deBruijn64tab), ("internal/strconv.uint64pow10", Rows.laid_internal_strconv_uint64pow10), ("unicode/utf8.acceptRanges", Rows.laid_unicode_utf8_acceptRanges), ("unicode/utf8.first", Rows.laid_unicode_utf8_first)] : List (String × DataW Unit)).filter (fun x => x.1 == "internal/strconv.uint64pow10") =
    [("internal/strconv.uint64pow10", Rows.laid_internal_strconv_uint64pow10)] by simp] at h1
  rw [MakeChecks.laidMetH_plain _ _ _ (by kernel_rfl)] at h1
  rw [show (Rows.laid_internal_strconv_uint64pow10 : DataW Unit) = Lib.tabData .u64 Lib.pow10Tab by rfl] at h1
  exact Lib.tabIs_of_head (g := 1) (t := 240) (e := 178) (n := 20) (by kernel_rfl) (by kernel_rfl) Tryz.underlying240 Tryz.underlying178 (by kernel_rfl) (by kernel_rfl) h1
end Go.Proofs.YtgjijcgkmofaaaaGreatDoor
