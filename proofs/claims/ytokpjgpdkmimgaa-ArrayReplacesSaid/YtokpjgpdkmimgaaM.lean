/-
  Rows of cells in memory and the lists that they hold, from both sides: what a call owns, what it reads. Conditions: none.
-/
import Derived.Test.YtokpjgpdkmimgaaD
import Derived.Laws.ResultCell
import Derived.Deep.RegionHeld3
import Derived.Deep.QuietTactic
import Derived.BigQuiet
namespace Go.Proofs.Ytokpjgpdkmimgaa
set_option linter.unusedSimpArgs false
set_option linter.unusedVariables false
open Go.RowKit

def encStr (s : ByteArray) : List Value := [.string s]
def encBool (b : Bool) : List Value := [.bool b]
def encInt (n : Int) : List Value := [.int .i64 n]
def encByte (c : UInt8) : List Value := [.int .u8 c.toNat]
def encBlk (x : Blk) : List Value := [.int .i64 x.first, .int .i64 x.bytes]
def encEnt (x : Ent) : List Value := [.string x.name, .int .i64 x.block, .int .i64 x.at_, .int .i64 x.bytes]
def encFil (x : Fil) : List Value := [.string x.name, .string x.data]
/-- R reads just what enc writes. -/
structure Enc {α : Type} (C : Nat) (R : Rd α) (enc : α → List Value) : Prop where
  len : ∀ a, (enc a).length = C
  cs : ∀ w cs a, R w cs a → cs = enc a
  w : ∀ w w' cs a, R w cs a → R w' cs a
  one : ∀ a, ∀ u ∈ enc a, u.oneCell' = true
theorem encStr_ok : Enc 1 RStr encStr := ⟨fun _ => rfl, fun _ _ _ h => h.1, fun _ _ _ _ h => h, fun _ u h => by simp [encStr] at h; subst h; rfl⟩
theorem encBool_ok : Enc 1 RBool encBool := ⟨fun _ => rfl, fun _ _ _ h => h, fun _ _ _ _ h => h, fun _ u h => by simp [encBool] at h; subst h; rfl⟩
theorem encInt_ok : Enc 1 RInt encInt := ⟨fun _ => rfl, fun _ _ _ h => h.1, fun _ _ _ _ h => h, fun _ u h => by simp [encInt] at h; subst h; rfl⟩
theorem encBlk_ok : Enc 2 RBlk encBlk := ⟨fun _ => rfl, fun _ _ _ h => h.1, fun _ _ _ _ h => h, fun _ u h => by simp [encBlk] at h; rcases h with h | h <;> subst h <;> rfl⟩
theorem encEnt_ok : Enc 4 REnt encEnt := ⟨fun _ => rfl, fun _ _ _ h => h.1, fun _ _ _ _ h => h, fun _ u h => by simp [encEnt] at h; rcases h with h | h | h | h <;> subst h <;> rfl⟩
theorem encFil_ok : Enc 2 RFil encFil := ⟨fun _ => rfl, fun _ _ _ h => h.1, fun _ _ _ _ h => h, fun _ u h => by simp [encFil] at h; rcases h with h | h <;> subst h <;> rfl⟩

theorem flatMap_at {α : Type} {C : Nat} {enc : α → List Value} (hl : ∀ a, (enc a).length = C) : ∀ (l : List α) (i j : Nat) (hi : i < l.length), j < C → (l.flatMap enc)[i * C + j]? = (enc l[i])[j]?
  | a :: l, 0, j, _, hj => by
    rw [Nat.zero_mul, Nat.zero_add, List.flatMap_cons, List.getElem?_append_left (by rw [hl]; exact hj)]
    rfl
  | a :: l, i + 1, j, hi, hj => by
    rw [List.flatMap_cons, List.getElem?_append_right (by rw [hl, Nat.add_mul]; omega), hl, show (i + 1) * C + j - C = i * C + j by rw [Nat.add_mul]; omega]
    exact flatMap_at hl l i j (by simpa using hi) hj
theorem length_flatMap {α : Type} {C : Nat} {enc : α → List Value} (hl : ∀ a, (enc a).length = C) (l : List α) : (l.flatMap enc).length = l.length * C := by
  induction l with
  | nil => simp
  | cons a l ih => rw [List.flatMap_cons, List.length_append, hl, ih, List.length_cons, Nat.add_mul]; omega

theorem own_slice {w : World} {base : Nat} {e : TypeId} {size : Nat} {v : Value} {n : Nat} {xs : List Value} (h : w.ownsRow base e size v n xs) : ∃ A c, v = .slice A n c := by
  rcases h.2 with ⟨hv, hn⟩ | ⟨g, cap, cur, hv, _⟩
  · exact ⟨none, 0, by rw [hv, hn]⟩
  · exact ⟨_, _, hv⟩
theorem own_len {w : World} {base : Nat} {e : TypeId} {size : Nat} {v : Value} {n n' : Nat} {xs : List Value} (hn : n = n') (h : w.ownsRow base e size v n xs) : w.ownsRow base e size v n' xs := hn ▸ h
/-- What a call owns stays while the world grows. -/
theorem own_ext {w w' : World} {base : Nat} {e : TypeId} {size : Nat} {v : Value} {n : Nat} {xs : List Value} (h : w.ownsRow base e size v n xs) (k : Ext w w') : w'.ownsRow base e size v n xs := by
  refine ⟨h.1, ?_⟩
  rcases h.2 with h | ⟨g, cap, cur, hv, hb, hg, r⟩
  · exact .inl h
  · exact .inr ⟨g, cap, cur, hv, hb, (k.below.block g (Array.getElem?_eq_some_iff.1 hg).1).trans hg, r⟩
theorem own_base {w : World} {base base' : Nat} {e : TypeId} {size : Nat} {v : Value} {n : Nat} {xs : List Value} (h : w.ownsRow base e size v n xs) (k : base' ≤ base) : w.ownsRow base' e size v n xs := by
  refine ⟨h.1, ?_⟩
  rcases h.2 with h | ⟨g, cap, cur, hv, hb, r⟩
  · exact .inl h
  · exact .inr ⟨g, cap, cur, hv, Nat.le_trans k hb, r⟩
/-- What a call owns reads as the list that it was made of. -/
theorem SlR.of_own {α : Type} {C bytes : Nat} {R : Rd α} {enc : α → List Value} (he : Enc C R enc) {w : World} {base : Nat} {e : TypeId} {v : Value} {l : List α}
    (h : w.ownsRow base e C v l.length (l.flatMap enc)) (hb : l.length * bytes ≤ 140737488355328) (hR : ∀ a ∈ l, R w (enc a) a) : SlR C bytes R w v l := by
  obtain ⟨hlen, h⟩ := h
  rcases h with ⟨hv, hn⟩ | ⟨g, cap, cur, hv, _, hg, hnc, _, hcs, htake⟩
  · have : l = [] := List.eq_nil_of_length_eq_zero hn
    subst this
    exact ⟨none, 0, by rw [hv]; rfl, by simp, by simp, .inl rfl⟩
  · refine ⟨some ⟨g, 0, none⟩, cap, hv, hb, hnc, ?_⟩
    by_cases h0 : l = []
    · exact .inl h0
    · refine .inr ⟨g, 0, rfl, fun i hi => ⟨enc l[i], he.len _, fun j hj => ?_, hR _ (List.getElem_mem hi)⟩⟩
      rw [← flatMap_at he.len l i j hi hj, Nat.zero_add, cell_of_row w g (i * C + j) cur e (0, 0) hg, ← htake, List.getElem?_take, if_pos]
      · simp
      · have : (i + 1) * C ≤ l.length * C := Nat.mul_le_mul_right _ hi
        rw [Nat.add_mul] at this
        omega
/-- The cells of a list that is read. -/
theorem SlR.cells {α : Type} {C bytes : Nat} {R : Rd α} {enc : α → List Value} (he : Enc C R enc) (hC : 0 < C) {w : World} {v : Value} {l : List α} (h : SlR C bytes R w v l) :
    ∃ A cap, v = .slice A l.length cap ∧ l.length * bytes ≤ 140737488355328 ∧ l.length ≤ cap ∧ (l = [] ∨ ∃ b o, A = some ⟨b, o, none⟩ ∧ (∀ (j : Nat) (u : Value), (l.flatMap enc)[j]? = some u → w.cell? ((⟨b, o, none⟩ : Addr).add j) = some u) ∧ ∀ a ∈ l, R w (enc a) a) := by
  obtain ⟨A, cap, hv, hb, hc, h⟩ := h
  refine ⟨A, cap, hv, hb, hc, ?_⟩
  rcases h with h | ⟨b, o, hA, h⟩
  · exact .inl h
  · refine .inr ⟨b, o, hA, fun j u hj => ?_, fun a ha => ?_⟩
    · have hlt : j < l.length * C := by rw [← length_flatMap he.len]; exact (List.getElem?_eq_some_iff.1 hj).1
      have hi : j / C < l.length := Nat.div_lt_of_lt_mul (by rwa [Nat.mul_comm])
      obtain ⟨cs, hl, hcell, hr⟩ := h (j / C) hi
      have hcs := he.cs _ _ _ hr
      have hm : j % C < C := Nat.mod_lt _ hC
      have hd : j / C * C + j % C = j := by rw [Nat.mul_comm]; exact Nat.div_add_mod j C
      have h2 := flatMap_at he.len l (j / C) (j % C) hi hm
      have h3 := hcell (j % C) hm
      rw [hd] at h2
      rw [Addr.add_lit, ← hj, h2, ← hcs, ← h3]
      congr 2
      omega
    · obtain ⟨i, hi, rfl⟩ := List.mem_iff_getElem.1 ha
      obtain ⟨cs, _, _, hr⟩ := h i hi
      rw [he.cs _ _ _ hr] at hr
      exact hr

/-- The cells of the k-th element, whatever its width. -/
theorem SlR.rowE {α : Type} {C bytes : Nat} {R : Rd α} {enc : α → List Value} (he : Enc C R enc) {w : World} {v : Value} {l : List α} (h : SlR C bytes R w v l) :
    ∃ A cap, v = .slice A l.length cap ∧ l.length * bytes ≤ 140737488355328 ∧ l.length ≤ cap ∧
      ∀ (k : Nat) (_ : k < l.length), ∃ b o, A = some ⟨b, o, none⟩ ∧ ∀ (i : Nat) (hi : i < l.length) (j : Nat) (u : Value), (enc l[i])[j]? = some u → w.cell? ⟨b, o + i * C + j, none⟩ = some u := by
  obtain ⟨A, cap, hv, hb, hc, h⟩ := h
  refine ⟨A, cap, hv, hb, hc, fun k hk => ?_⟩
  rcases h with h | ⟨b, o, hA, h⟩
  · subst h; exact absurd hk (by simp)
  · refine ⟨b, o, hA, fun i hi j u hu => ?_⟩
    obtain ⟨cs, hl, hcell, hr⟩ := h i hi
    have hcs := he.cs _ _ _ hr
    subst hcs
    have hj : j < C := by have := (List.getElem?_eq_some_iff.1 hu).1; omega
    rw [hcell j hj, hu]
theorem SlR.rowR {α : Type} {C bytes : Nat} {R : Rd α} {w : World} {v : Value} {l : List α} (h : SlR C bytes R w v l) :
    ∃ A cap, v = .slice A l.length cap ∧ l.length * bytes ≤ 140737488355328 ∧ l.length ≤ cap ∧
      ∀ (k : Nat) (_ : k < l.length), ∃ b o, A = some ⟨b, o, none⟩ ∧ ∀ (i : Nat) (hi : i < l.length), ∃ cs, cs.length = C ∧ (∀ (j : Nat) (u : Value), cs[j]? = some u → w.cell? ⟨b, o + i * C + j, none⟩ = some u) ∧ R w cs l[i] := by
  obtain ⟨A, cap, hv, hb, hc, h⟩ := h
  refine ⟨A, cap, hv, hb, hc, fun k hk => ?_⟩
  rcases h with h | ⟨b, o, hA, h⟩
  · subst h; exact absurd hk (by simp)
  · refine ⟨b, o, hA, fun i hi => ?_⟩
    obtain ⟨cs, hl, hcell, hr⟩ := h i hi
    exact ⟨cs, hl, fun j u hu => by rw [hcell j (by have := (List.getElem?_eq_some_iff.1 hu).1; omega), hu], hr⟩
theorem SlR.mem {α : Type} {C bytes : Nat} {R : Rd α} {enc : α → List Value} (he : Enc C R enc) {w : World} {v : Value} {l : List α} (h : SlR C bytes R w v l) (w' : World) : ∀ a ∈ l, R w' (enc a) a := by
  obtain ⟨A, cap, hv, hb, hc, h⟩ := h
  intro a ha
  rcases h with h | ⟨b, o, hA, h⟩
  · subst h; cases ha
  · obtain ⟨i, hi, rfl⟩ := List.mem_iff_getElem.1 ha
    obtain ⟨cs, _, _, hr⟩ := h i hi
    have := he.cs _ _ _ hr
    rw [this] at hr
    exact he.w _ _ _ _ hr
theorem SlR.len {α : Type} {C bytes : Nat} {R : Rd α} {w : World} {v : Value} {l : List α} (h : SlR C bytes R w v l) : l.length * bytes ≤ 140737488355328 := by
  obtain ⟨A, cap, hv, hb, hc, h⟩ := h
  exact hb
theorem SlR.again {α : Type} {C bytes : Nat} {R : Rd α} {enc : α → List Value} (he : Enc C R enc) {w w' : World} {v v' : Value} {l : List α} {base : Nat} {e : TypeId} (h : SlR C bytes R w v l)
    (o : w'.ownsRow base e C v' l.length (l.flatMap enc)) : SlR C bytes R w' v' l := SlR.of_own he o h.len (h.mem he w')
theorem RDev.again {w w' : World} {cs : List Value} {d : Dev} (h : RDev w cs d) {v1 v2 : Value} {b b' : Nat} {e e' : TypeId} (o1 : w'.ownsRow b e 1 v1 d.sec.length (d.sec.flatMap encStr))
    (o2 : w'.ownsRow b' e' 1 v2 d.lost.length (d.lost.flatMap encBool)) : RDev w' [v1, v2] d := by
  obtain ⟨_, _, _, h1, h2⟩ := h
  exact ⟨_, _, rfl, h1.again encStr_ok o1, h2.again encBool_ok o2⟩
theorem RDev.form {w : World} {cs : List Value} {d : Dev} (h : RDev w cs d) : ∃ A1 c1 A2 c2, cs = [.slice A1 d.sec.length c1, .slice A2 d.lost.length c2] := by
  obtain ⟨v1, v2, rfl, ⟨A1, c1, rfl, _⟩, ⟨A2, c2, rfl, _⟩⟩ := h
  exact ⟨A1, c1, A2, c2, rfl⟩
theorem RDev.split {w : World} {cs : List Value} {d : Dev} (h : RDev w cs d) : ∃ A1 c1 A2 c2, cs = [.slice A1 d.sec.length c1, .slice A2 d.lost.length c2] ∧ SlR 1 16 RStr w (.slice A1 d.sec.length c1) d.sec ∧ SlR 1 1 RBool w (.slice A2 d.lost.length c2) d.lost := by
  obtain ⟨v1, v2, rfl, h1, h2⟩ := h
  have h1' := h1
  have h2' := h2
  obtain ⟨A1, c1, rfl, _⟩ := h1'
  obtain ⟨A2, c2, rfl, _⟩ := h2'
  exact ⟨A1, c1, A2, c2, rfl, h1, h2⟩
theorem RCat.again {w w' : World} {cs : List Value} {d : Cat} (h : RCat w cs d) {v1 v2 : Value} {b b' : Nat} {e e' : TypeId} (o1 : w'.ownsRow b e 2 v1 d.blocks.length (d.blocks.flatMap encBlk))
    (o2 : w'.ownsRow b' e' 4 v2 d.entries.length (d.entries.flatMap encEnt)) : RCat w' [v1, v2] d := by
  obtain ⟨_, _, _, h1, h2⟩ := h
  exact ⟨_, _, rfl, h1.again encBlk_ok o1, h2.again encEnt_ok o2⟩

section
variable {P : Program} {fn : Func} {p u x y : Tmp} {ty : TypeId} {tmps : Array Value} {w : World} {g : Nat} {cs : Array Value} {t : TypeId} {d : TypeDesc}
theorem run_load_blk (hb : Blk_ w g t cs) (hu : P.underlying ty = some d) (hd : (match d with | .struct _ | .array _ _ => true | _ => false) = true) (hi : (P.info? ty).map (·.size) = some cs.size) :
    (loadVar ty ⟨g, 0, none⟩).run P w = .ok (.agg cs) w := run_loadVar_row w g t ty cs (0, 0) d hb hu hd hi
/-- A result that is a struct is read out of its own block. -/
theorem res_cell (h : fn.results = #[.cell p ty]) (ha : tmps.getD p undef = .pointer (some ⟨g, 0, none⟩)) (hb : Blk_ w g t cs) (hu : P.underlying ty = some d)
    (hd : (match d with | .struct _ | .array _ _ => true | _ => false) = true) (hi : (P.info? ty).map (·.size) = some cs.size) : (results fn tmps).run P w = .ok (.agg cs) w := by
  have ha' : tmps[p]?.getD undef = .pointer (some ⟨g, 0, none⟩) := by simpa using ha
  simp only [results, h]
  simp [Sem.run_bind, Result.andThen, ha', asAddr, run_load_blk hb hu hd hi]
theorem res_cell_tmp (h : fn.results = #[.cell p ty, .tmp u]) (ha : tmps.getD p undef = .pointer (some ⟨g, 0, none⟩)) (hb : Blk_ w g t cs) (hu : P.underlying ty = some d)
    (hd : (match d with | .struct _ | .array _ _ => true | _ => false) = true) (hi : (P.info? ty).map (·.size) = some cs.size) : (results fn tmps).run P w = .ok (.tuple #[.agg cs, tmps.getD u undef]) w := by
  have ha' : tmps[p]?.getD undef = .pointer (some ⟨g, 0, none⟩) := by simpa using ha
  simp only [results, h]
  simp [Sem.run_bind, Result.andThen, ha', asAddr, run_load_blk hb hu hd hi]
theorem res_cell_tmp2 (h : fn.results = #[.cell p ty, .tmp u, .tmp x]) (ha : tmps.getD p undef = .pointer (some ⟨g, 0, none⟩)) (hb : Blk_ w g t cs) (hu : P.underlying ty = some d)
    (hd : (match d with | .struct _ | .array _ _ => true | _ => false) = true) (hi : (P.info? ty).map (·.size) = some cs.size) : (results fn tmps).run P w = .ok (.tuple #[.agg cs, tmps.getD u undef, tmps.getD x undef]) w := by
  have ha' : tmps[p]?.getD undef = .pointer (some ⟨g, 0, none⟩) := by simpa using ha
  simp only [results, h]
  simp [Sem.run_bind, Result.andThen, ha', asAddr, run_load_blk hb hu hd hi]
end
end Go.Proofs.Ytokpjgpdkmimgaa
