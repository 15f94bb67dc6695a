/-
  Rows of cells in memory and the lists that they hold, from both sides: what a call owns, what it reads. Conditions: none.
-/
import Derived.Test.YtokpjgpdkmimgaaDoorJ1
import Derived.Laws.ResultCell
import Derived.Deep.RegionHeld3
import Derived.Deep.QuietTactic
import Derived.BigQuiet
import Derived.Maps.AppendAt
import Derived.RegionTactic
import Derived.OwnWalk
namespace Go.Proofs.YtokpjgpdkmimgaaDoor
set_option linter.unusedSimpArgs false
set_option linter.unusedVariables false
open Go.RowKit

def encStr (s : ByteArray) : List Value := [.string s]
def encBool (b : Bool) : List Value := [.bool b]
def encInt (n : Int) : List Value := [.int .i64 n]
def encByte (c : UInt8) : List Value := [.int .u8 c.toNat]
def encBlk (x : Blk) : List Value := [.int .i64 x.first, .int .i64 x.bytes]
def encEnt (x : Ent) : List Value := [.string x.name, .int .i64 x.block, .int .i64 x.at_, .int .i64 x.bytes]
def encFil (x : Fil) : List Value := [.string x.name, .string x.data]
/-- R reads just what enc writes. -/
structure Enc {α : Type} (C : Nat) (R : Rd α) (enc : α → List Value) : Prop where
  len : ∀ a, (enc a).length = C
  cs : ∀ w cs a, R w cs a → cs = enc a
  w : ∀ w w' cs a, R w cs a → R w' cs a
  one : ∀ a, ∀ u ∈ enc a, u.oneCell' = true
theorem encStr_ok : Enc 1 RStr encStr := ⟨fun _ => rfl, fun _ _ _ h => h.1, fun _ _ _ _ h => h, fun _ u h => by simp [encStr] at h; subst h; rfl⟩
theorem encBool_ok : Enc 1 RBool encBool := ⟨fun _ => rfl, fun _ _ _ h => h, fun _ _ _ _ h => h, fun _ u h => by simp [encBool] at h; subst h; rfl⟩
theorem encInt_ok : Enc 1 RInt encInt := ⟨fun _ => rfl, fun _ _ _ h => h.1, fun _ _ _ _ h => h, fun _ u h => by simp [encInt] at h; subst h; rfl⟩
theorem encBlk_ok : Enc 2 RBlk encBlk := ⟨fun _ => rfl, fun _ _ _ h => h.1, fun _ _ _ _ h => h, fun _ u h => by simp [encBlk] at h; rcases h with h | h <;> subst h <;> rfl⟩
theorem encEnt_ok : Enc 4 REnt encEnt := ⟨fun _ => rfl, fun _ _ _ h => h.1, fun _ _ _ _ h => h, fun _ u h => by simp [encEnt] at h; rcases h with h | h | h | h <;> subst h <;> rfl⟩
theorem encFil_ok : Enc 2 RFil encFil := ⟨fun _ => rfl, fun _ _ _ h => h.1, fun _ _ _ _ h => h, fun _ u h => by simp [encFil] at h; rcases h with h | h <;> subst h <;> rfl⟩

theorem flatMap_at {α : Type} {C : Nat} {enc : α → List Value} (hl : ∀ a, (enc a).length = C) : ∀ (l : List α) (i j : Nat) (hi : i < l.length), j < C → (l.flatMap enc)[i * C + j]? = (enc l[i])[j]?
  | a :: l, 0, j, _, hj => by
    rw [Nat.zero_mul, Nat.zero_add, List.flatMap_cons, List.getElem?_append_left (by rw [hl]; exact hj)]
    rfl
  | a :: l, i + 1, j, hi, hj => by
    rw [List.flatMap_cons, List.getElem?_append_right (by rw [hl, Nat.add_mul]; omega), hl, show (i + 1) * C + j - C = i * C + j by rw [Nat.add_mul]; omega]
    exact flatMap_at hl l i j (by simpa using hi) hj
theorem length_flatMap {α : Type} {C : Nat} {enc : α → List Value} (hl : ∀ a, (enc a).length = C) (l : List α) : (l.flatMap enc).length = l.length * C := by
  induction l with
  | nil => simp
  | cons a l ih => rw [List.flatMap_cons, List.length_append, hl, ih, List.length_cons, Nat.add_mul]; omega

theorem own_slice {w : World} {base : Nat} {e : TypeId} {size : Nat} {v : Value} {n : Nat} {xs : List Value} (h : w.ownsRow base e size v n xs) : ∃ A c, v = .slice A n c := by
  rcases h.2 with ⟨hv, hn⟩ | ⟨g, cap, cur, hv, _⟩
  · exact ⟨none, 0, by rw [hv, hn]⟩
  · exact ⟨_, _, hv⟩
theorem own_len {w : World} {base : Nat} {e : TypeId} {size : Nat} {v : Value} {n n' : Nat} {xs : List Value} (hn : n = n') (h : w.ownsRow base e size v n xs) : w.ownsRow base e size v n' xs := hn ▸ h
/-- What a call owns stays while the world grows. -/
theorem own_ext {w w' : World} {base : Nat} {e : TypeId} {size : Nat} {v : Value} {n : Nat} {xs : List Value} (h : w.ownsRow base e size v n xs) (k : Ext w w') : w'.ownsRow base e size v n xs := by
  refine ⟨h.1, ?_⟩
  rcases h.2 with h | ⟨g, cap, cur, hv, hb, hg, r⟩
  · exact .inl h
  · exact .inr ⟨g, cap, cur, hv, hb, (k.below.block g (Array.getElem?_eq_some_iff.1 hg).1).trans hg, r⟩
theorem own_base {w : World} {base base' : Nat} {e : TypeId} {size : Nat} {v : Value} {n : Nat} {xs : List Value} (h : w.ownsRow base e size v n xs) (k : base' ≤ base) : w.ownsRow base' e size v n xs := by
  refine ⟨h.1, ?_⟩
  rcases h.2 with h | ⟨g, cap, cur, hv, hb, r⟩
  · exact .inl h
  · exact .inr ⟨g, cap, cur, hv, Nat.le_trans k hb, r⟩
/-- What a call owns reads as the list that it was made of. -/
theorem SlR.of_own {α : Type} {C bytes : Nat} {R : Rd α} {enc : α → List Value} (he : Enc C R enc) {w : World} {base : Nat} {e : TypeId} {v : Value} {l : List α}
    (h : w.ownsRow base e C v l.length (l.flatMap enc)) (hb : l.length * bytes ≤ 140737488355328) (hR : ∀ a ∈ l, R w (enc a) a) : SlR C bytes R w v l := by
  obtain ⟨hlen, h⟩ := h
  rcases h with ⟨hv, hn⟩ | ⟨g, cap, cur, hv, _, hg, hnc, _, hcs, htake⟩
  · have : l = [] := List.eq_nil_of_length_eq_zero hn
    subst this
    exact ⟨none, 0, by rw [hv]; rfl, by simp, by simp, .inl rfl⟩
  · refine ⟨some ⟨g, 0, none⟩, cap, hv, hb, hnc, ?_⟩
    by_cases h0 : l = []
    · exact .inl h0
    · refine .inr ⟨g, 0, rfl, fun i hi => ⟨enc l[i], he.len _, fun j hj => ?_, hR _ (List.getElem_mem hi)⟩⟩
      rw [← flatMap_at he.len l i j hi hj, Nat.zero_add, cell_of_row w g (i * C + j) cur e (0, 0) hg, ← htake, List.getElem?_take, if_pos]
      · simp
      · have : (i + 1) * C ≤ l.length * C := Nat.mul_le_mul_right _ hi
        rw [Nat.add_mul] at this
        omega
/-- The cells of a list that is read. -/
theorem SlR.cells {α : Type} {C bytes : Nat} {R : Rd α} {enc : α → List Value} (he : Enc C R enc) (hC : 0 < C) {w : World} {v : Value} {l : List α} (h : SlR C bytes R w v l) :
    ∃ A cap, v = .slice A l.length cap ∧ l.length * bytes ≤ 140737488355328 ∧ l.length ≤ cap ∧ (l = [] ∨ ∃ b o, A = some ⟨b, o, none⟩ ∧ (∀ (j : Nat) (u : Value), (l.flatMap enc)[j]? = some u → w.cell? ((⟨b, o, none⟩ : Addr).add j) = some u) ∧ ∀ a ∈ l, R w (enc a) a) := by
  obtain ⟨A, cap, hv, hb, hc, h⟩ := h
  refine ⟨A, cap, hv, hb, hc, ?_⟩
  rcases h with h | ⟨b, o, hA, h⟩
  · exact .inl h
  · refine .inr ⟨b, o, hA, fun j u hj => ?_, fun a ha => ?_⟩
    · have hlt : j < l.length * C := by rw [← length_flatMap he.len]; exact (List.getElem?_eq_some_iff.1 hj).1
      have hi : j / C < l.length := Nat.div_lt_of_lt_mul (by rwa [Nat.mul_comm])
      obtain ⟨cs, hl, hcell, hr⟩ := h (j / C) hi
      have hcs := he.cs _ _ _ hr
      have hm : j % C < C := Nat.mod_lt _ hC
      have hd : j / C * C + j % C = j := by rw [Nat.mul_comm]; exact Nat.div_add_mod j C
      have h2 := flatMap_at he.len l (j / C) (j % C) hi hm
      have h3 := hcell (j % C) hm
      rw [hd] at h2
      rw [Addr.add_lit, ← hj, h2, ← hcs, ← h3]
      congr 2
      omega
    · obtain ⟨i, hi, rfl⟩ := List.mem_iff_getElem.1 ha
      obtain ⟨cs, _, _, hr⟩ := h i hi
      rw [he.cs _ _ _ hr] at hr
      exact hr

/-- The cells of the k-th element, whatever its width. -/
theorem SlR.rowE {α : Type} {C bytes : Nat} {R : Rd α} {enc : α → List Value} (he : Enc C R enc) {w : World} {v : Value} {l : List α} (h : SlR C bytes R w v l) :
    ∃ A cap, v = .slice A l.length cap ∧ l.length * bytes ≤ 140737488355328 ∧ l.length ≤ cap ∧
      ∀ (k : Nat) (_ : k < l.length), ∃ b o, A = some ⟨b, o, none⟩ ∧ ∀ (i : Nat) (hi : i < l.length) (j : Nat) (u : Value), (enc l[i])[j]? = some u → w.cell? ⟨b, o + i * C + j, none⟩ = some u := by
  obtain ⟨A, cap, hv, hb, hc, h⟩ := h
  refine ⟨A, cap, hv, hb, hc, fun k hk => ?_⟩
  rcases h with h | ⟨b, o, hA, h⟩
  · subst h; exact absurd hk (by simp)
  · refine ⟨b, o, hA, fun i hi j u hu => ?_⟩
    obtain ⟨cs, hl, hcell, hr⟩ := h i hi
    have hcs := he.cs _ _ _ hr
    subst hcs
    have hj : j < C := by have := (List.getElem?_eq_some_iff.1 hu).1; omega
    rw [hcell j hj, hu]
theorem SlR.rowR {α : Type} {C bytes : Nat} {R : Rd α} {w : World} {v : Value} {l : List α} (h : SlR C bytes R w v l) :
    ∃ A cap, v = .slice A l.length cap ∧ l.length * bytes ≤ 140737488355328 ∧ l.length ≤ cap ∧
      ∀ (k : Nat) (_ : k < l.length), ∃ b o, A = some ⟨b, o, none⟩ ∧ ∀ (i : Nat) (hi : i < l.length), ∃ cs, cs.length = C ∧ (∀ (j : Nat) (u : Value), cs[j]? = some u → w.cell? ⟨b, o + i * C + j, none⟩ = some u) ∧ R w cs l[i] := by
  obtain ⟨A, cap, hv, hb, hc, h⟩ := h
  refine ⟨A, cap, hv, hb, hc, fun k hk => ?_⟩
  rcases h with h | ⟨b, o, hA, h⟩
  · subst h; exact absurd hk (by simp)
  · refine ⟨b, o, hA, fun i hi => ?_⟩
    obtain ⟨cs, hl, hcell, hr⟩ := h i hi
    exact ⟨cs, hl, fun j u hu => by rw [hcell j (by have := (List.getElem?_eq_some_iff.1 hu).1; omega), hu], hr⟩
theorem SlR.mem {α : Type} {C bytes : Nat} {R : Rd α} {enc : α → List Value} (he : Enc C R enc) {w : World} {v : Value} {l : List α} (h : SlR C bytes R w v l) (w' : World) : ∀ a ∈ l, R w' (enc a) a := by
  obtain ⟨A, cap, hv, hb, hc, h⟩ := h
  intro a ha
  rcases h with h | ⟨b, o, hA, h⟩
  · subst h; cases ha
  · obtain ⟨i, hi, rfl⟩ := List.mem_iff_getElem.1 ha
    obtain ⟨cs, _, _, hr⟩ := h i hi
    have := he.cs _ _ _ hr
    rw [this] at hr
    exact he.w _ _ _ _ hr
theorem SlR.len {α : Type} {C bytes : Nat} {R : Rd α} {w : World} {v : Value} {l : List α} (h : SlR C bytes R w v l) : l.length * bytes ≤ 140737488355328 := by
  obtain ⟨A, cap, hv, hb, hc, h⟩ := h
  exact hb
theorem SlR.again {α : Type} {C bytes : Nat} {R : Rd α} {enc : α → List Value} (he : Enc C R enc) {w w' : World} {v v' : Value} {l : List α} {base : Nat} {e : TypeId} (h : SlR C bytes R w v l)
    (o : w'.ownsRow base e C v' l.length (l.flatMap enc)) : SlR C bytes R w' v' l := SlR.of_own he o h.len (h.mem he w')
theorem RDev.again {w w' : World} {cs : List Value} {d : Dev} (h : RDev w cs d) {v1 v2 : Value} {b b' : Nat} {e e' : TypeId} (o1 : w'.ownsRow b e 1 v1 d.sec.length (d.sec.flatMap encStr))
    (o2 : w'.ownsRow b' e' 1 v2 d.lost.length (d.lost.flatMap encBool)) : RDev w' [v1, v2] d := by
  obtain ⟨_, _, _, h1, h2⟩ := h
  exact ⟨_, _, rfl, h1.again encStr_ok o1, h2.again encBool_ok o2⟩
theorem RDev.form {w : World} {cs : List Value} {d : Dev} (h : RDev w cs d) : ∃ A1 c1 A2 c2, cs = [.slice A1 d.sec.length c1, .slice A2 d.lost.length c2] := by
  obtain ⟨v1, v2, rfl, ⟨A1, c1, rfl, _⟩, ⟨A2, c2, rfl, _⟩⟩ := h
  exact ⟨A1, c1, A2, c2, rfl⟩
theorem RDev.split {w : World} {cs : List Value} {d : Dev} (h : RDev w cs d) : ∃ A1 c1 A2 c2, cs = [.slice A1 d.sec.length c1, .slice A2 d.lost.length c2] ∧ SlR 1 16 RStr w (.slice A1 d.sec.length c1) d.sec ∧ SlR 1 1 RBool w (.slice A2 d.lost.length c2) d.lost := by
  obtain ⟨v1, v2, rfl, h1, h2⟩ := h
  have h1' := h1
  have h2' := h2
  obtain ⟨A1, c1, rfl, _⟩ := h1'
  obtain ⟨A2, c2, rfl, _⟩ := h2'
  exact ⟨A1, c1, A2, c2, rfl, h1, h2⟩
theorem RCat.again {w w' : World} {cs : List Value} {d : Cat} (h : RCat w cs d) {v1 v2 : Value} {b b' : Nat} {e e' : TypeId} (o1 : w'.ownsRow b e 2 v1 d.blocks.length (d.blocks.flatMap encBlk))
    (o2 : w'.ownsRow b' e' 4 v2 d.entries.length (d.entries.flatMap encEnt)) : RCat w' [v1, v2] d := by
  obtain ⟨_, _, _, h1, h2⟩ := h
  exact ⟨_, _, rfl, h1.again encBlk_ok o1, h2.again encEnt_ok o2⟩

section
variable {P : Program} {fn : Func} {p u x y : Tmp} {ty : TypeId} {tmps : Array Value} {w : World} {g : Nat} {cs : Array Value} {t : TypeId} {d : TypeDesc}
theorem run_load_blk (hb : Blk_ w g t cs) (hu : P.underlying ty = some d) (hd : (match d with | .struct _ | .array _ _ => true | _ => false) = true) (hi : (P.info? ty).map (·.size) = some cs.size) :
    (loadVar ty ⟨g, 0, none⟩).run P w = .ok (.agg cs) w := run_loadVar_row w g t ty cs (0, 0) d hb hu hd hi
/-- A result that is a struct is read out of its own block. -/
theorem res_cell (h : fn.results = #[.cell p ty]) (ha : tmps.getD p undef = .pointer (some ⟨g, 0, none⟩)) (hb : Blk_ w g t cs) (hu : P.underlying ty = some d)
    (hd : (match d with | .struct _ | .array _ _ => true | _ => false) = true) (hi : (P.info? ty).map (·.size) = some cs.size) : (results fn tmps).run P w = .ok (.agg cs) w := by
  have ha' : tmps[p]?.getD undef = .pointer (some ⟨g, 0, none⟩) := by simpa using ha
  simp only [results, h]
  simp [Sem.run_bind, Result.andThen, ha', asAddr, run_load_blk hb hu hd hi]
theorem res_cell_tmp (h : fn.results = #[.cell p ty, .tmp u]) (ha : tmps.getD p undef = .pointer (some ⟨g, 0, none⟩)) (hb : Blk_ w g t cs) (hu : P.underlying ty = some d)
    (hd : (match d with | .struct _ | .array _ _ => true | _ => false) = true) (hi : (P.info? ty).map (·.size) = some cs.size) : (results fn tmps).run P w = .ok (.tuple #[.agg cs, tmps.getD u undef]) w := by
  have ha' : tmps[p]?.getD undef = .pointer (some ⟨g, 0, none⟩) := by simpa using ha
  simp only [results, h]
  simp [Sem.run_bind, Result.andThen, ha', asAddr, run_load_blk hb hu hd hi]
theorem res_cell_tmp2 (h : fn.results = #[.cell p ty, .tmp u, .tmp x]) (ha : tmps.getD p undef = .pointer (some ⟨g, 0, none⟩)) (hb : Blk_ w g t cs) (hu : P.underlying ty = some d)
    (hd : (match d with | .struct _ | .array _ _ => true | _ => false) = true) (hi : (P.info? ty).map (·.size) = some cs.size) : (results fn tmps).run P w = .ok (.tuple #[.agg cs, tmps.getD u undef, tmps.getD x undef]) w := by
  have ha' : tmps[p]?.getD undef = .pointer (some ⟨g, 0, none⟩) := by simpa using ha
  simp only [results, h]
  simp [Sem.run_bind, Result.andThen, ha', asAddr, run_load_blk hb hu hd hi]
end
end Go.Proofs.YtokpjgpdkmimgaaDoor

/-
  The walks of sum.Of and of the document's seal: both hand back the four bytes of the seal; the world only grows. Conditions: the string is no longer than a string may be.
-/
namespace Go.Proofs.YtokpjgpdkmimgaaDoor
set_option linter.unusedSimpArgs false
set_option linter.unusedVariables false
open Go.RowKit

set_option maxRecDepth 100000 in
set_option maxHeartbeats 400000 in
theorem sumOf_any (s : ByteArray) (w : World) (hs : s.size ≤ 140737488355328) :
    Calls Tryd.prog 51 #[.string s] w fun e w' => e = .returned (.string (bs (sealOf (lst s)))) ∧ Ext w w' := by

  go_enter Tryd.func51, Tryd.ntmps51
  go_wp2
  go_loop [3, 4, 8] (fun x y i => ∃ k : Nat, k ≤ s.size ∧ i = .int .i64 k ∧ x = .int .i64 (sealXY ((lst s).take k)).1 ∧ y = .int .i64 (sealXY ((lst s).take k)).2) (fun _ _ i => s.size - (intOf i).toNat)
  case atStart => exact ⟨0, Nat.zero_le _, rfl, rfl, rfl⟩
  case round =>
    obtain ⟨k, hk, rfl, rfl, rfl⟩ := hrel
    obtain ⟨h1, h2, h3, h4⟩ := sealXY_range ((lst s).take k)
    by_cases hlt : k < s.size
    · have hb := u8_hi s[k]
      have hst : sealXY ((lst s).take (k+1)) = sealStep (sealXY ((lst s).take k)) s[k] := by rw [take_snoc s k hlt, sealXY_snoc]
      have HT := Lib.hid hst
      clear hst
      generalize (sealXY ((lst s).take k)) = p at *
      go_wp2
      go_round
      case rel => exact ⟨k + 1, by omega, by go_num, by rw [HT.out]; rfl, by rw [HT.out]; rfl⟩
      case measure => simp [intOf]; omega
    · have hfin : sealXY ((lst s).take k) = sealXY (lst s) := by rw [take_ge s k (by omega)]
      have HF := Lib.hid hfin
      clear hfin
      generalize (sealXY ((lst s).take k)) = p at *
      go_wp2
      go_ret
      exact ⟨ret_str (by unfold sealOf; rw [← HF.out]; rfl), (Ext.refl _).alloc _⟩

set_option maxRecDepth 100000 in
set_option maxHeartbeats 400000 in
theorem sealOf_any (s : ByteArray) (w : World) (hs : s.size ≤ 140737488355328) :
    Calls Tryd.prog 140 #[.string s] w fun e w' => e = .returned (.string (bs (sealOf (lst s)))) ∧ Ext w w' := by

  go_enter Tryd.func140, Tryd.ntmps140
  go_wp2
  go_loop [3, 4, 5] (fun x y i => ∃ k : Nat, k ≤ s.size ∧ i = .int .i64 k ∧ x = .int .i64 (sealXY ((lst s).take k)).1 ∧ y = .int .i64 (sealXY ((lst s).take k)).2) (fun _ _ i => s.size - (intOf i).toNat)
  case atStart => exact ⟨0, Nat.zero_le _, rfl, rfl, rfl⟩
  case round =>
    obtain ⟨k, hk, rfl, rfl, rfl⟩ := hrel
    obtain ⟨h1, h2, h3, h4⟩ := sealXY_range ((lst s).take k)
    by_cases hlt : k < s.size
    · have hb := u8_hi s[k]
      have hst : sealXY ((lst s).take (k+1)) = sealStep (sealXY ((lst s).take k)) s[k] := by rw [take_snoc s k hlt, sealXY_snoc]
      have HT := Lib.hid hst
      clear hst
      generalize (sealXY ((lst s).take k)) = p at *
      go_wp2
      go_round
      case rel => exact ⟨k + 1, by omega, by go_num, by rw [HT.out]; rfl, by rw [HT.out]; unfold sealStep; dsimp only; go_num⟩
      case measure => simp [intOf]; omega
    · have hfin : sealXY ((lst s).take k) = sealXY (lst s) := by rw [take_ge s k (by omega)]
      have HF := Lib.hid hfin
      clear hfin
      generalize (sealXY ((lst s).take k)) = p at *
      go_wp2
      go_ret
      exact ⟨ret_str (by unfold sealOf; rw [← HF.out]; rfl), (Ext.refl _).alloc _⟩

end Go.Proofs.YtokpjgpdkmimgaaDoor

/-
  The walks of In, of how many sectors so many bytes need, and of the law StreamSectors. Conditions: the number is small where the reference counts up to it.
-/
namespace Go.Proofs.YtokpjgpdkmimgaaDoor
set_option linter.unusedSimpArgs false
set_option linter.unusedVariables false
open Go.RowKit

set_option maxRecDepth 100000 in
set_option maxHeartbeats 400000 in
theorem in_true (n lo hi : Int) (w : World) (h1 : lo ≤ n) (h2 : n ≤ hi) :
    Calls Tryd.prog 87 #[.int .i64 n, .int .i64 lo, .int .i64 hi] w fun e w' => e = .returned (.bool true) ∧ w = w' := by
  go_enter Tryd.func87, Tryd.ntmps87
  go_wp2
  go_ret
  exact ⟨rfl, rfl⟩
set_option maxRecDepth 100000 in
set_option maxHeartbeats 400000 in
theorem in_false (n lo hi : Int) (w : World) (h : n < lo ∨ hi < n) :
    Calls Tryd.prog 87 #[.int .i64 n, .int .i64 lo, .int .i64 hi] w fun e w' => e = .returned (.bool false) ∧ w = w' := by
  by_cases h1 : n < lo
  · clear h
    go_enter Tryd.func87, Tryd.ntmps87
    go_wp2
    go_ret
    exact ⟨rfl, rfl⟩
  · have h2 : hi < n := by omega
    clear h
    go_enter Tryd.func87, Tryd.ntmps87
    go_wp2
    go_ret
    exact ⟨ret_bool (by simp; omega), rfl⟩
def inB (n lo hi : Int) : Bool := decide (lo ≤ n) && decide (n ≤ hi)
theorem inB_true {n lo hi : Int} (h : inB n lo hi = true) : lo ≤ n ∧ n ≤ hi := by simpa [inB] using h
theorem inB_false {n lo hi : Int} (h : inB n lo hi = false) : n < lo ∨ hi < n := by simp [inB] at h; omega
theorem in_any (n lo hi : Int) (w : World) :
    Calls Tryd.prog 87 #[.int .i64 n, .int .i64 lo, .int .i64 hi] w fun e w' => e = .returned (.bool (inB n lo hi)) ∧ w = w' := by
  by_cases h : inB n lo hi = true
  · rw [h]; exact in_true n lo hi w (inB_true h).1 (inB_true h).2
  · rw [Bool.not_eq_true] at h; rw [h]; exact in_false n lo hi w (inB_false h)

set_option maxRecDepth 100000 in
set_option maxHeartbeats 400000 in
theorem sectors_any (n : Int) (w : World) (h0 : 0 ≤ n) (h1 : n ≤ 140737488355328) :
    Calls Tryd.prog 45 #[.int .i64 n] w fun e w' => e = .returned (.int .i64 ((n + 23) / 24)) ∧ w = w' := by
  go_enter Tryd.func45, Tryd.ntmps45
  go_wp2
  go_ret
  exact ⟨ret_int (by omega), rfl⟩
set_option maxRecDepth 100000 in
set_option maxHeartbeats 400000 in
theorem sectorsOf_any (n : Int) (w : World) (h0 : 0 ≤ n) (h1 : n ≤ 140737488355328) :
    Calls Tryd.prog 49 #[.int .i64 n] w fun e w' => e = .returned (.int .i64 ((n + 23) / 24)) ∧ w = w' := by
  go_enter Tryd.func49, Tryd.ntmps49
  go_wp2
  go_loop [3] (fun k => ∃ j : Nat, k = .int .i64 j ∧ (j : Int) ≤ (n + 23) / 24) (fun k => ((n + 23) / 24 - intOf k).toNat)
  case atStart => exact ⟨0, rfl, by omega⟩
  case round =>
    obtain ⟨j, rfl, hj⟩ := hrel
    by_cases hlt : (j : Int) * 24 < n
    · go_wp2
      go_round
      case rel => exact ⟨j + 1, by go_num, by omega⟩
      case measure => simp [intOf]; omega
    · go_wp2
      go_ret
      exact ⟨ret_int (by omega), rfl⟩

end Go.Proofs.YtokpjgpdkmimgaaDoor

/-
  slices.Clone at the program's types: a copy in new memory of the call's own. Conditions: the slice reads as a list.
-/
namespace Go.Proofs.YtokpjgpdkmimgaaDoor
open Go.RowKit

theorem info_str : (Tryd.prog.info? 9).map (fun i => (i.zero, i.size, i.bytes)) = some (some (.string .empty), 1, 16) := by kernel_rfl
set_option maxRecDepth 100000 in
set_option maxHeartbeats 400000 in
theorem clone_str (v : Value) (w : World) (l : List ByteArray) (h : SlR 1 16 RStr w v l) :
    Calls Tryd.prog 127 #[v] w fun e w' => ∃ A' c', e = .returned (.slice A' l.length c') ∧ Ext w w' ∧ w'.ownsRow w.heap.size 9 1 (.slice A' l.length c') l.length (l.flatMap encStr) := by
  obtain ⟨A, cap, rfl, hb, hc, hl⟩ := h.cells encStr_ok (by decide)
  clear h
  obtain ⟨i0, hi, hz0, hz1, hz2⟩ := info_parts info_str
  cases A with
  | none =>
    have hl0 : l = [] := by rcases hl with h | ⟨b, o, h, _⟩; exact h; cases h
    subst hl0
    clear hl hi hz0 hz1 hz2
    go_enter Tryd.func127, Tryd.ntmps127
    go_wp2
    go_ret
    exact ⟨none, 0, rfl, Ext.refl _, World.ownsRow_nil _ _ _ _⟩
  | some a =>
    have hcells : ∀ (j : Nat) (u : Value), (l.flatMap encStr)[j]? = some u → w.cell? (a.add j) = some u := by
      rcases hl with h | ⟨b, o, h, hc, _⟩
      · subst h; intro j u hu; simp at hu
      · cases h; exact hc
    have HI := Lib.hid hi
    have H0 := Lib.hid hz0
    have H1 := Lib.hid hz1
    have H2 := Lib.hid hz2
    have HC := Lib.hid hcells
    clear hl hi hz0 hz1 hz2 hcells
    go_enter Tryd.func127, Tryd.ntmps127
    go_wp2_with (at_builtin; refine wpList_append_own _ rfl _ _ 43 rfl w.heap.size 9 i0 (.string .empty) 1 16 Tryd.underlying43 HI.out H0.out H1.out H2.out rfl (by decide) _ _ _ rfl (World.ownsRow_made w #[] 0 (Nat.le_refl _) (by decide) rfl) a l.length cap (l.flatMap encStr) rfl ?c1 ?c2 ?c3 ?c4 ?c5 ?c6 ?_)
    case c1 => exact length_flatMap encStr_ok.len l
    case c2 => exact fun j u hu => (Ext.alloc (Ext.refl w) _).cell (HC.out j u hu)
    case c3 => exact fun u hu => by obtain ⟨x, _, hx⟩ := List.mem_flatMap.1 hu; exact encStr_ok.one x u hx
    case c4 => unfold maxLen; omega
    case c5 => omega
    case c6 => simp
    intro v' w' hown hg _
    have HO := Lib.hid hown
    have HG := Lib.hid hg
    clear hown hg
    go_wp2
    go_ret
    obtain ⟨A', c', hv⟩ := own_slice HO.out
    refine ⟨A', c', ret_eq hv, ((Ext.refl w).alloc _).grown HG.out (fun k hk => ?_), ?_⟩
    · simp [Value.ownBlock] at hk; omega
    · rw [← hv]; exact HO.out

theorem info_bool : (Tryd.prog.info? 4).map (fun i => (i.zero, i.size, i.bytes)) = some (some (.bool false), 1, 1) := by kernel_rfl
set_option maxRecDepth 100000 in
set_option maxHeartbeats 400000 in
theorem clone_bool (v : Value) (w : World) (l : List Bool) (h : SlR 1 1 RBool w v l) :
    Calls Tryd.prog 128 #[v] w fun e w' => ∃ A' c', e = .returned (.slice A' l.length c') ∧ Ext w w' ∧ w'.ownsRow w.heap.size 4 1 (.slice A' l.length c') l.length (l.flatMap encBool) := by
  obtain ⟨A, cap, rfl, hb, hc, hl⟩ := h.cells encBool_ok (by decide)
  clear h
  obtain ⟨i0, hi, hz0, hz1, hz2⟩ := info_parts info_bool
  cases A with
  | none =>
    have hl0 : l = [] := by rcases hl with h | ⟨b, o, h, _⟩; exact h; cases h
    subst hl0
    clear hl hi hz0 hz1 hz2
    go_enter Tryd.func128, Tryd.ntmps128
    go_wp2
    go_ret
    exact ⟨none, 0, rfl, Ext.refl _, World.ownsRow_nil _ _ _ _⟩
  | some a =>
    have hcells : ∀ (j : Nat) (u : Value), (l.flatMap encBool)[j]? = some u → w.cell? (a.add j) = some u := by
      rcases hl with h | ⟨b, o, h, hc, _⟩
      · subst h; intro j u hu; simp at hu
      · cases h; exact hc
    have HI := Lib.hid hi
    have H0 := Lib.hid hz0
    have H1 := Lib.hid hz1
    have H2 := Lib.hid hz2
    have HC := Lib.hid hcells
    clear hl hi hz0 hz1 hz2 hcells
    go_enter Tryd.func128, Tryd.ntmps128
    go_wp2_with (at_builtin; refine wpList_append_own _ rfl _ _ 115 rfl w.heap.size 4 i0 (.bool false) 1 1 Tryd.underlying115 HI.out H0.out H1.out H2.out rfl (by decide) _ _ _ rfl (World.ownsRow_made w #[] 0 (Nat.le_refl _) (by decide) rfl) a l.length cap (l.flatMap encBool) rfl ?c1 ?c2 ?c3 ?c4 ?c5 ?c6 ?_)
    case c1 => exact length_flatMap encBool_ok.len l
    case c2 => exact fun j u hu => (Ext.alloc (Ext.refl w) _).cell (HC.out j u hu)
    case c3 => exact fun u hu => by obtain ⟨x, _, hx⟩ := List.mem_flatMap.1 hu; exact encBool_ok.one x u hx
    case c4 => unfold maxLen; omega
    case c5 => omega
    case c6 => simp
    intro v' w' hown hg _
    have HO := Lib.hid hown
    have HG := Lib.hid hg
    clear hown hg
    go_wp2
    go_ret
    obtain ⟨A', c', hv⟩ := own_slice HO.out
    refine ⟨A', c', ret_eq hv, ((Ext.refl w).alloc _).grown HG.out (fun k hk => ?_), ?_⟩
    · simp [Value.ownBlock] at hk; omega
    · rw [← hv]; exact HO.out

theorem info_blk : (Tryd.prog.info? 55).map (fun i => (i.zero, i.size, i.bytes)) = some (some (.agg #[.int .i64 0, .int .i64 0]), 2, 16) := by kernel_rfl
theorem info_ent : (Tryd.prog.info? 58).map (fun i => (i.zero, i.size, i.bytes)) = some (some (.agg #[.string .empty, .int .i64 0, .int .i64 0, .int .i64 0]), 4, 40) := by kernel_rfl
end Go.Proofs.YtokpjgpdkmimgaaDoor

/-
  device.Copy and catalog.Copy: both lists in new memory. Conditions: the argument reads as such a struct.
-/
namespace Go.Proofs.YtokpjgpdkmimgaaDoor
open Go.RowKit

set_option maxRecDepth 100000 in
set_option maxHeartbeats 400000 in
theorem devCopy_any (cs : List Value) (d : Dev) (w : World) (h : RDev w cs d) :
    Calls Tryd.prog 108 #[.agg cs.toArray] w fun e w' => ∃ A1 c1 A2 c2, e = .returned (.agg #[.slice A1 d.sec.length c1, .slice A2 d.lost.length c2]) ∧ Ext w w' ∧
      w'.ownsRow w.heap.size 9 1 (.slice A1 d.sec.length c1) d.sec.length (d.sec.flatMap encStr) ∧ w'.ownsRow w.heap.size 4 1 (.slice A2 d.lost.length c2) d.lost.length (d.lost.flatMap encBool) := by
  obtain ⟨v1, v2, rfl, h1, h2⟩ := h
  go_enter Tryd.func108, Tryd.ntmps108
  go_wp2
  refine wp_abs (fun W => Ext w W ∧ Blk_ W w.heap.size 117 #[v1, v2] ∧ Blk_ W (w.heap.size + 1) 117 #[.slice none 0 0, .slice none 0 0]) ⟨((Ext.refl _).alloc _).alloc _, (Blk_.new _ _ _).alloc _, Blk_.new1 _ _ _ _⟩ ?_
  rintro W ⟨hx, hb1, hb2⟩
  have c1 := hb1.cell 0
  have c2 := hb1.cell 1
  simp at c1 c2
  go_region_held3 (fun W' => W'.cell? ⟨w.heap.size, 0, none⟩ = some v1 ∧ W'.cell? ⟨w.heap.size, 1, none⟩ = some v2)
    (first | exact ⟨c1, c2⟩ | exact ⟨e1.cell c1, e1.cell c2⟩ | exact ⟨e2.cell c1, e2.cell c2⟩ | go_keep)
    (first | (go_at_call 127; refine (clone_str _ _ d.sec (h1.ext RStr.stays hx.drew)).mono ?_; rintro _ w1 ⟨A1, k1, rfl, f1, o1⟩; have e1 : Ext W w1 := (Ext.drew (Ext.refl W)).trans f1) | (go_at_call 128; refine (clone_bool _ _ d.lost (h2.ext RBool.stays (hx.trans e1))).mono ?_; rintro _ w2 ⟨A2, k2, rfl, f2, o2⟩; have e2 := e1.trans f2; have b0 := (hb2.ext e2).cell 0; have b1 := (hb2.ext e2).cell 1; simp at b0 b1; have z0 := (hb2.ext e2).frozen 0; have z1 := (hb2.ext e2).frozen 1))
  have hW : w.heap.size + 1 < W.heap.size := hb2.lt
  have hb3 := ((hb2.ext e2).set 0 (.slice A1 d.sec.length k1)).set 1 (.slice A2 d.lost.length k2)
  have HB := Lib.hid hb3
  clear hb3
  go_wp2
  refine bodyPost_ret (res_cell rfl rfl HB.out Tryd.underlying117 rfl (by kernel_rfl)) rfl ?_
  refine ⟨A1, k1, A2, k2, rfl, ((hx.trans e2).setCell (by simp) _).setCell (by simp) _, ?_, ?_⟩
  · exact own_base (ownsRow_setCell_below (ownsRow_setCell_below (own_ext o1 f2) (by simpa using hW) _) (by simpa using hW) _) (by simpa using hx.size)
  · have := e1.size
    exact own_base (ownsRow_setCell_below (ownsRow_setCell_below o2 (by simp; omega) _) (by simp; omega) _) (by have := hx.size; omega)

end Go.Proofs.YtokpjgpdkmimgaaDoor

/-
  The comparisons of the laws answer true where both sides read as the same data. Conditions: both read so.
-/
namespace Go.Proofs.YtokpjgpdkmimgaaDoor
set_option linter.unusedSimpArgs false
set_option linter.unusedVariables false
open Go.RowKit
theorem RStr.val {w : World} {u : Value} {s : ByteArray} (h : RStr w [u] s) : u = .string s := by have := h.1; simpa using this
theorem RBool.val {w : World} {u : Value} {s : Bool} (h : RBool w [u] s) : u = .bool s := by have : [u] = _ := h; simpa using this
theorem RInt.val {w : World} {u : Value} {s : Int} (h : RInt w [u] s) : u = .int .i64 s := by have := h.1; simpa using this

set_option maxRecDepth 100000 in
set_option maxHeartbeats 1000000 in
theorem sameCatalog_true (cs1 cs2 : List Value) (d : Cat) (w : World) (h1 : RCat w cs1 d) (h2 : RCat w cs2 d) :
    Calls Tryd.prog 15 #[.agg cs1.toArray, .agg cs2.toArray] w fun e w' => e = .returned (.bool true) ∧ Ext w w' := by
  obtain ⟨v1, v2, rfl, h1, h2'⟩ := h1
  obtain ⟨v3, v4, rfl, h3, h4⟩ := h2
  obtain ⟨A1, c1, rfl, l1, hc1, p1⟩ := h1.rowE encBlk_ok
  obtain ⟨A2, c2, rfl, l2, hc2, s1⟩ := h2'.rowE encEnt_ok
  obtain ⟨A3, c3, rfl, l3, hc3, p2⟩ := h3.rowE encBlk_ok
  obtain ⟨A4, c4, rfl, l4, hc4, s2⟩ := h4.rowE encEnt_ok
  clear h1 h2' h3 h4
  go_enter Tryd.func15, Tryd.ntmps15
  go_wp2
  refine wp_abs (fun W => Ext w W ∧ Blk_ W w.heap.size 25 #[.slice A1 d.blocks.length c1, .slice A2 d.entries.length c2] ∧ Blk_ W (w.heap.size + 1) 25 #[.slice A3 d.blocks.length c3, .slice A4 d.entries.length c4]) ⟨((Ext.refl _).alloc _).alloc _, (Blk_.new _ _ _).alloc _, Blk_.new1 _ _ _ _⟩ ?_
  rintro W ⟨hx, hb1, hb2⟩
  go_loopw [5] (fun i wr => ∃ k : Nat, i = .int .i64 k ∧ k ≤ d.blocks.length ∧ Ext w wr ∧ Blk_ wr w.heap.size 25 #[.slice A1 d.blocks.length c1, .slice A2 d.entries.length c2] ∧ Blk_ wr (w.heap.size + 1) 25 #[.slice A3 d.blocks.length c3, .slice A4 d.entries.length c4]) (fun i _ => d.blocks.length - (intOf i).toNat)
  case atStart => exact ⟨0, rfl, Nat.zero_le _, hx, hb1, hb2⟩
  case round =>
    clear hx hb1 hb2
    obtain ⟨k, rfl, hk, hx, hb1, hb2⟩ := hrel
    have f0 := hb1.cell 0
    have f1 := hb1.cell 1
    have f2 := hb2.cell 0
    have f3 := hb2.cell 1
    simp at f0 f1 f2 f3
    by_cases hlt : k < d.blocks.length
    · obtain ⟨b1, o1, rfl, g1⟩ := p1 k hlt
      obtain ⟨b2, o2, rfl, g2⟩ := p2 k hlt
      have q0 := hx.cell (g1 k hlt 0 _ rfl)
      have q1 := hx.cell (g1 k hlt 1 _ rfl)
      have t0 := hx.cell (g2 k hlt 0 _ rfl)
      have t1 := hx.cell (g2 k hlt 1 _ rfl)
      simp only [Nat.add_zero] at q0 t0
      clear g1 g2
      have HP1 := Lib.hid p1
      have HP2 := Lib.hid p2
      have HS1 := Lib.hid s1
      have HS2 := Lib.hid s2
      clear p1 p2 s1 s2
      go_wp2
      go_quiet (fail)
      go_wp2
      go_roundw
      case rel => exact ⟨k + 1, by go_num, by omega, hx.drewN _, hb1, hb2⟩
      case measure => simp [intOf]; omega
    · go_wp2
      go_loopw [6] (fun i wr => ∃ k : Nat, i = .int .i64 k ∧ k ≤ d.entries.length ∧ Ext w wr ∧ Blk_ wr w.heap.size 25 #[.slice A1 d.blocks.length c1, .slice A2 d.entries.length c2] ∧ Blk_ wr (w.heap.size + 1) 25 #[.slice A3 d.blocks.length c3, .slice A4 d.entries.length c4]) (fun i _ => d.entries.length - (intOf i).toNat)
      case atStart => exact ⟨0, rfl, Nat.zero_le _, hx, hb1, hb2⟩
      case round =>
        clear hx hb1 hb2 f0 f1 f2 f3
        obtain ⟨k, rfl, hk, hx, hb1, hb2⟩ := hrel
        have f0 := hb1.cell 0
        have f1 := hb1.cell 1
        have f2 := hb2.cell 0
        have f3 := hb2.cell 1
        simp at f0 f1 f2 f3
        by_cases hlt : k < d.entries.length
        · obtain ⟨b1, o1, rfl, g1⟩ := s1 k hlt
          obtain ⟨b2, o2, rfl, g2⟩ := s2 k hlt
          have q0 := hx.cell (g1 k hlt 0 _ rfl)
          have q1 := hx.cell (g1 k hlt 1 _ rfl)
          have q2 := hx.cell (g1 k hlt 2 _ rfl)
          have q3 := hx.cell (g1 k hlt 3 _ rfl)
          have t0 := hx.cell (g2 k hlt 0 _ rfl)
          have t1 := hx.cell (g2 k hlt 1 _ rfl)
          have t2 := hx.cell (g2 k hlt 2 _ rfl)
          have t3 := hx.cell (g2 k hlt 3 _ rfl)
          simp only [Nat.add_zero] at q0 t0
          clear g1 g2
          have HP1 := Lib.hid p1
          have HP2 := Lib.hid p2
          have HS1 := Lib.hid s1
          have HS2 := Lib.hid s2
          clear p1 p2 s1 s2
          go_wp2
          go_quiet (fail)
          go_wp2
          go_roundw
          case rel => exact ⟨k + 1, by go_num, by omega, hx.drewN _, hb1, hb2⟩
          case measure => simp [intOf]; omega
        · go_wp2
          go_ret
          exact ⟨rfl, hx⟩

end Go.Proofs.YtokpjgpdkmimgaaDoor

/-
  Arrays of devices in memory: a row of the call's own that holds devices; a device may be stored into it, or one more behind it. Conditions: none.
-/
namespace Go.Proofs.YtokpjgpdkmimgaaDoor
set_option linter.unusedSimpArgs false
set_option linter.unusedVariables false
open Go.RowKit

/-- The value's row does not lie in block g. -/
def Av (g : Nat) (v : Value) : Prop := ∀ b o s n c, v = .slice (some ⟨b, o, s⟩) n c → n = 0 ∨ b ≠ g
/-- The value's row lies in block B or above. -/
def New (B : Nat) (v : Value) : Prop := ∀ b o s n c, v = .slice (some ⟨b, o, s⟩) n c → n = 0 ∨ B ≤ b
theorem New.av {B g : Nat} {v : Value} (h : New B v) (hg : g < B) : Av g v := fun b o s n c e => by
  rcases h b o s n c e with h | h
  · exact .inl h
  · exact .inr (by omega)
theorem New.mono {B B' : Nat} {v : Value} (h : New B v) (hB : B' ≤ B) : New B' v := fun b o s n c e => by
  rcases h b o s n c e with h | h
  · exact .inl h
  · exact .inr (by omega)
theorem New.nil (B : Nat) : New B (.slice none 0 0) := fun b o s n c e => by cases e
theorem New.own {w : World} {base : Nat} {e : TypeId} {size : Nat} {v : Value} {n : Nat} {xs : List Value} (h : w.ownsRow base e size v n xs) : New base v := by
  intro b o s n' c ev
  rcases h.2 with ⟨hv, _⟩ | ⟨g, cap, cur, hv, hb, _⟩
  · rw [hv] at ev; cases ev
  · rw [hv] at ev; injection ev with h1 h2 h3; injection h1 with h1; injection h1 with h1; subst h1; exact .inr hb
theorem SlR.far {α : Type} {C bytes : Nat} {R : Rd α} {enc : α → List Value} (he : Enc C R enc) {w : World} {v : Value} {l : List α} (h : SlR C bytes R w v l) {p : Addr} (hv : Av p.block v) (u : Value) : SlR C bytes R (w.setCell p u) v l := by
  obtain ⟨A, cap, e, hb, hc, h⟩ := h
  refine ⟨A, cap, e, hb, hc, ?_⟩
  rcases h with h | ⟨b, o, hA, h⟩
  · exact .inl h
  · by_cases h0 : l = []
    · exact .inl h0
    · right
      subst hA
      have hne : b ≠ p.block := by
        rcases hv b o none _ _ e with h | h
        · exact absurd (List.eq_nil_of_length_eq_zero h) h0
        · exact h
      refine ⟨b, o, rfl, fun i hi => ?_⟩
      obtain ⟨cs, hl, hcell, hr⟩ := h i hi
      exact ⟨cs, hl, fun j hj => (World.cell?_setCell_other w p _ u (fun e => hne (by rw [e]))).trans (hcell j hj), he.w _ _ _ _ hr⟩
/-- A device whose rows do not lie in block g. -/
def RDevG (g : Nat) (w : World) (cs : List Value) (d : Dev) : Prop := ∃ A1 c1 A2 c2, cs = [.slice A1 d.sec.length c1, .slice A2 d.lost.length c2] ∧ RDev w cs d ∧ Av g (.slice A1 d.sec.length c1) ∧ Av g (.slice A2 d.lost.length c2)
theorem RDevG.dev {g : Nat} {w : World} {cs : List Value} {d : Dev} (h : RDevG g w cs d) : RDev w cs d := by
  obtain ⟨_, _, _, _, _, h, _⟩ := h
  exact h
theorem RDevG.ext {g : Nat} {w w' : World} {cs : List Value} {d : Dev} (h : RDevG g w cs d) (k : Ext w w') : RDevG g w' cs d := by
  obtain ⟨A1, c1, A2, c2, e, h, r⟩ := h
  exact ⟨A1, c1, A2, c2, e, h.up k, r⟩
theorem RDevG.far {w : World} {cs : List Value} {d : Dev} {p : Addr} (h : RDevG p.block w cs d) (u : Value) : RDevG p.block (w.setCell p u) cs d := by
  obtain ⟨A1, c1, A2, c2, e, h, r1, r2⟩ := h
  refine ⟨A1, c1, A2, c2, e, ?_, r1, r2⟩
  obtain ⟨v1, v2, e', h1, h2⟩ := h
  rw [e] at e'
  simp only [List.cons.injEq, and_true] at e'
  obtain ⟨rfl, rfl⟩ := e'
  exact ⟨_, _, e, h1.far encStr_ok r1 u, h2.far encBool_ok r2 u⟩
theorem SlR.avoids {α : Type} {C bytes : Nat} {R : Rd α} {w : World} {v : Value} {l : List α} (h : SlR C bytes R w v l) (hC : 0 < C) {g : Nat} (hg : w.heap.size ≤ g) : Av g v := by
  obtain ⟨A, cap, e, hb, hc, h⟩ := h
  intro b o s n c ev
  rw [e] at ev
  injection ev with h1 h2 h3
  rcases h with h | ⟨b', o', hA, h⟩
  · left; rw [← h2, h]; rfl
  · rw [hA] at h1
    injection h1 with h1
    injection h1 with h1 h1' h1''
    subst h1
    by_cases h0 : l.length = 0
    · left; omega
    · right
      obtain ⟨cs, hl, hcell, _⟩ := h 0 (by omega)
      have h2 := hcell 0 hC
      rw [List.getElem?_eq_getElem (by omega)] at h2
      have := World.block_lt_of_cell? w _ h2
      simp at this
      omega
theorem RDev.old {w : World} {cs : List Value} {d : Dev} (h : RDev w cs d) {g : Nat} (hg : w.heap.size ≤ g) : RDevG g w cs d := by
  obtain ⟨A1, c1, A2, c2, e⟩ := h.form
  have h' := h
  obtain ⟨v1, v2, e', h1, h2⟩ := h'
  rw [e] at e'
  simp only [List.cons.injEq, and_true] at e'
  obtain ⟨rfl, rfl⟩ := e'
  exact ⟨A1, c1, A2, c2, e, h, h1.avoids (by decide) hg, h2.avoids (by decide) hg⟩
theorem RDev.newG {w : World} {A1 A2 : Option Addr} {n1 c1 n2 c2 : Nat} {d : Dev} (h : RDev w [.slice A1 n1 c1, .slice A2 n2 c2] d) {B g : Nat} (k1 : New B (.slice A1 n1 c1)) (k2 : New B (.slice A2 n2 c2)) (hg : g < B) : RDevG g w [.slice A1 n1 c1, .slice A2 n2 c2] d := by
  obtain ⟨A1', c1', A2', c2', e⟩ := h.form
  have e' := e
  simp only [List.cons.injEq, and_true, Value.slice.injEq] at e'
  obtain ⟨⟨rfl, rfl, rfl⟩, rfl, rfl, rfl⟩ := e'
  exact ⟨_, _, _, _, e, h, k1.av hg, k2.av hg⟩

def pair (p : Value × Value) : List Value := [p.1, p.2]
theorem pair_len (p : Value × Value) : (pair p).length = 2 := rfl
/-- A row of the call's own that holds devices. -/
def OArr (E : TypeId) (w : World) (base : Nat) (v : Value) (a : List Dev) : Prop :=
  ∃ vs : List (Value × Value), vs.length = a.length ∧ w.ownsRow base E 2 v a.length (vs.flatMap pair) ∧
    (∀ g, v.ownBlock = some g → ∀ (i : Nat) (hi : i < a.length) (p : Value × Value), vs[i]? = some p → RDevG g w (pair p) a[i]) ∧
    ∀ (i : Nat) (p : Value × Value), vs[i]? = some p → New base p.1 ∧ New base p.2
theorem RDevG.away {g : Nat} {w : World} {x1 x2 : Value} {d : Dev} {p : Addr} {B : Nat} (h : RDevG g w [x1, x2] d) (h1 : New B x1) (h2 : New B x2) (hp : p.block < B) (u : Value) : RDevG g (w.setCell p u) [x1, x2] d := by
  obtain ⟨A1, c1, A2, c2, e, h, r1, r2⟩ := h
  refine ⟨A1, c1, A2, c2, e, ?_, r1, r2⟩
  obtain ⟨v1, v2, e', k1, k2⟩ := h
  simp only [List.cons.injEq, and_true] at e'
  obtain ⟨rfl, rfl⟩ := e'
  exact ⟨_, _, rfl, k1.far encStr_ok (h1.av hp) u, k2.far encBool_ok (h2.av hp) u⟩
theorem OArr.far {E : TypeId} {w : World} {base : Nat} {v : Value} {a : List Dev} (h : OArr E w base v a) {p : Addr} (hp : p.block < base) (u : Value) : OArr E (w.setCell p u) base v a := by
  obtain ⟨vs, hl, ho, hr, hn⟩ := h
  exact ⟨vs, hl, ownsRow_setCell_below ho hp u, fun g hg i hi q hq => (hr g hg i hi q hq).away (hn i q hq).1 (hn i q hq).2 hp u, hn⟩
theorem OArr.base {E : TypeId} {w : World} {base base' : Nat} {v : Value} {a : List Dev} (h : OArr E w base v a) (hb : base' ≤ base) : OArr E w base' v a := by
  obtain ⟨vs, hl, ho, hr, hn⟩ := h
  exact ⟨vs, hl, own_base ho hb, hr, fun i p hp => ⟨(hn i p hp).1.mono hb, (hn i p hp).2.mono hb⟩⟩
theorem OArr.ext {E : TypeId} {w w' : World} {base : Nat} {v : Value} {a : List Dev} (h : OArr E w base v a) (k : Ext w w') : OArr E w' base v a := by
  obtain ⟨vs, hl, ho, hr, hn⟩ := h
  exact ⟨vs, hl, own_ext ho k, fun g hg i hi p hp => (hr g hg i hi p hp).ext k, hn⟩
theorem OArr.nil (E : TypeId) (w : World) (base : Nat) : OArr E w base (.slice none 0 0) [] := ⟨[], rfl, World.ownsRow_nil _ _ _ _, (fun g hg => by cases hg), fun i p hp => by simp at hp⟩
theorem OArr.rarr {E : TypeId} {w : World} {base : Nat} {v : Value} {a : List Dev} (h : OArr E w base v a) (hb : a.length * 48 ≤ 140737488355328) : RArr w [v] a := by
  obtain ⟨vs, hl, ho, hr, _⟩ := h
  refine ⟨v, rfl, ?_⟩
  obtain ⟨hlen, h⟩ := ho
  rcases h with ⟨hv, hn⟩ | ⟨g, cap, cur, hv, _, hg, hnc, _, hcs, htake⟩
  · have : a = [] := List.eq_nil_of_length_eq_zero hn
    subst this
    exact ⟨none, 0, by rw [hv]; rfl, by simp, by simp, .inl rfl⟩
  · refine ⟨some ⟨g, 0, none⟩, cap, hv, hb, hnc, ?_⟩
    by_cases h0 : a = []
    · exact .inl h0
    · refine .inr ⟨g, 0, rfl, fun i hi => ?_⟩
      have hi' : i < vs.length := by omega
      refine ⟨pair vs[i], rfl, fun j hj => ?_, (hr g (by rw [hv]; rfl) i hi _ (List.getElem?_eq_getElem hi')).dev⟩
      rw [← flatMap_at pair_len vs i j hi' hj, Nat.zero_add, cell_of_row w g (i * 2 + j) cur E (0, 0) hg, ← htake, List.getElem?_take, if_pos]
      · simp
      · omega
theorem SlR.grown {α : Type} {C bytes : Nat} {R : Rd α} {enc : α → List Value} (he : Enc C R enc) {w w' : World} {v : Value} {l : List α} {row : Option Nat} (h : SlR C bytes R w v l) (hg : w.grownBy w' row) (hv : ∀ g, row = some g → Av g v) : SlR C bytes R w' v l := by
  obtain ⟨A, cap, e, hb, hc, h⟩ := h
  refine ⟨A, cap, e, hb, hc, ?_⟩
  rcases h with h | ⟨b, o, hA, h⟩
  · exact .inl h
  · by_cases h0 : l = []
    · exact .inl h0
    · right
      subst hA
      refine ⟨b, o, rfl, fun i hi => ?_⟩
      obtain ⟨cs, hl, hcell, hr⟩ := h i hi
      refine ⟨cs, hl, fun j hj => ?_, he.w _ _ _ _ hr⟩
      have hs : cs[j]? = some (cs[j]'(by omega)) := List.getElem?_eq_getElem (by omega)
      rw [hs]
      refine hg.cell ((hcell j hj).trans hs) (fun e' => ?_)
      rcases hv b e'.symm b o none _ _ e with h | h
      · exact absurd (List.eq_nil_of_length_eq_zero h) h0
      · exact h rfl
theorem RDev.grown {w w' : World} {cs : List Value} {d : Dev} {row : Option Nat} (h : RDev w cs d) (hg : w.grownBy w' row) (hv : ∀ g, row = some g → RDevG g w cs d) : RDev w' cs d := by
  obtain ⟨v1, v2, e, h1, h2⟩ := h
  refine ⟨v1, v2, e, h1.grown encStr_ok hg (fun g hr => ?_), h2.grown encBool_ok hg (fun g hr => ?_)⟩
  · obtain ⟨A1, c1, A2, c2, e', _, r1, r2⟩ := hv g hr
    rw [e] at e'
    simp only [List.cons.injEq, and_true] at e'
    rw [e'.1]; exact r1
  · obtain ⟨A1, c1, A2, c2, e', _, r1, r2⟩ := hv g hr
    rw [e] at e'
    simp only [List.cons.injEq, and_true] at e'
    rw [e'.2]; exact r2
/-- One more device behind the row. -/
theorem OArr.push {E : TypeId} {w w' : World} {base : Nat} {v v' : Value} {a : List Dev} {x1 x2 : Value} {d : Dev} (h : OArr E w base v a)
    (ho : ∀ xs, w.ownsRow base E 2 v a.length xs → w'.ownsRow base E 2 v' (a.length + 1) (xs ++ [x1, x2])) (hg : w.grownBy w' v.ownBlock) (hb : v'.ownBlock = v.ownBlock ∨ v'.ownBlock = some w.heap.size)
    (hd : RDev w [x1, x2] d) (hd' : ∀ g, v.ownBlock = some g → RDevG g w [x1, x2] d) (n1 : New base x1) (n2 : New base x2) : OArr E w' base v' (a ++ [d]) := by
  obtain ⟨vs, hl, hown, hr, hn⟩ := h
  refine ⟨vs ++ [(x1, x2)], by simp [hl], ?_, ?_, fun i p hp => ?_⟩
  rotate_left 2
  · by_cases hlt : i < vs.length
    · rw [List.getElem?_append_left hlt] at hp
      exact hn i p hp
    · rw [List.getElem?_append_right (by omega)] at hp
      have : i - vs.length = 0 := by
        have := (List.getElem?_eq_some_iff.1 hp).1
        simp at this; omega
      rw [this] at hp
      simp only [List.getElem?_cons_zero, Option.some.injEq] at hp
      subst hp
      exact ⟨n1, n2⟩
  · have := ho _ hown
    simp only [List.length_append, List.length_cons, List.length_nil, Nat.zero_add, List.flatMap_append, List.flatMap_cons, List.flatMap_nil, List.append_nil, pair]
    exact this
  · intro g hv i hi p hp
    have key : ∀ cs (d0 : Dev), RDev w cs d0 → (∀ g0, v.ownBlock = some g0 → RDevG g0 w cs d0) → RDevG g w' cs d0 := by
      intro cs d0 h1 h2
      have h3 : RDev w' cs d0 := h1.grown hg h2
      obtain ⟨A1, c1, A2, c2, e⟩ := h3.form
      have hav : RDevG g w cs d0 := by
        rcases hb with hb | hb
        · exact h2 g (by rw [← hb]; exact hv)
        · rw [hb] at hv; injection hv with hv; subst hv; exact h1.old (Nat.le_refl _)
      obtain ⟨B1, k1, B2, k2, e', _, r1, r2⟩ := hav
      exact ⟨B1, k1, B2, k2, e', h3, r1, r2⟩
    by_cases hlt : i < a.length
    · rw [List.getElem?_append_left (by omega)] at hp
      rw [List.getElem_append_left hlt]
      have h1 := fun g0 h0 => hr g0 h0 i hlt p hp
      refine key _ _ ?_ h1
      have hne : ∃ g0, v.ownBlock = some g0 := by
        rcases hown.2 with ⟨_, hn⟩ | ⟨g0, _, _, hv0, _⟩
        · omega
        · exact ⟨g0, by rw [hv0]; rfl⟩
      obtain ⟨g0, hg0⟩ := hne
      exact (h1 g0 hg0).dev
    · have hie : i = a.length := by simp at hi; omega
      subst hie
      rw [List.getElem?_append_right (by omega), hl, Nat.sub_self] at hp
      simp only [List.getElem?_cons_zero, Option.some.injEq] at hp
      subst hp
      rw [List.getElem_append_right (by omega)]
      simp only [Nat.sub_self, List.getElem_cons_zero]
      exact key _ _ hd hd'
theorem OArr.pushes {E : TypeId} {w : World} {base : Nat} {v : Value} {a : List Dev} (h : OArr E w base v a) :
    ∃ xs, w.ownsRow base E 2 v a.length xs ∧ ∀ (w' : World) (v' x1 x2 : Value) (d : Dev), w'.ownsRow base E 2 v' (a.length + 1) (xs ++ [x1, x2]) → w.grownBy w' v.ownBlock → (v'.ownBlock = v.ownBlock ∨ v'.ownBlock = some w.heap.size) →
      RDev w [x1, x2] d → (∀ g, v.ownBlock = some g → RDevG g w [x1, x2] d) → New base x1 → New base x2 → OArr E w' base v' (a ++ [d]) := by
  have h' := h
  obtain ⟨vs, hl, hown, hr, _⟩ := h'
  refine ⟨_, hown, fun w' v' x1 x2 d ho hg hb hd hd' n1 n2 => h.push (fun xs hxs => ?_) hg hb hd hd' n1 n2⟩
  have e : xs = vs.flatMap pair := by
    obtain ⟨l1, h1⟩ := hxs
    obtain ⟨l2, h2⟩ := hown
    rcases h1 with ⟨_, hn⟩ | ⟨g, cap, cur, hv, _, hg, _, _, _, ht⟩
    · rw [hn] at l1 l2
      have q1 : xs = [] := List.eq_nil_of_length_eq_zero (by rw [l1, Nat.zero_mul])
      have q2 : vs.flatMap pair = [] := List.eq_nil_of_length_eq_zero (by rw [l2, Nat.zero_mul])
      rw [q1, q2]
    · rcases h2 with ⟨hv2, _⟩ | ⟨g2, cap2, cur2, hv2, _, hg2, _, _, _, ht2⟩
      · rw [hv] at hv2; cases hv2
      · rw [hv] at hv2
        injection hv2 with e1 e2 e3
        injection e1 with e1
        injection e1 with e1
        subst e1
        rw [hg] at hg2
        injection hg2 with hg2
        injection hg2 with hg2
        subst hg2
        rw [← ht, ← ht2]
  rw [e]; exact ho
theorem Blk_.grown {w w' : World} {g : Nat} {t : TypeId} {cs : Array Value} {row : Option Nat} (h : Blk_ w g t cs) (hg : w.grownBy w' row) (hr : ∀ k, row = some k → k ≠ g) : Blk_ w' g t cs :=
  (hg.block g h.lt (fun e => hr g e.symm rfl)).trans h

section
variable {P : Program} (w : World)
theorem wp_append_at {o : Oper} {a : Act} {K : Act → World → Prop} {Q : Exit → Act → World → Prop} (s x : Operand) (t : TypeId)
    (ho : o.op = .call { callee := .builtin .append, args := #[s, x], argTypes := #[t, t] })
    (base : Nat) (e : TypeId) (i : TypeInfo) (z : Value) (size bytes : Nat) (ht : P.underlying t = some (.slice e)) (hi : P.info? e = some i) (hz : i.zero = some z)
    (hsize : i.size = size) (hby : i.bytes = bytes) (hzs : z.cells.size = size) (hsz : 0 < size)
    (v : Value) (n : Nat) (xs : List Value) (hs : a.eval s = v) (hown : w.ownsRow base e size v n xs)
    (ad : Addr) (m c : Nat) (news : List Value) (hx : a.eval x = .slice (some ad) m c) (hl : news.length = m * size) (hnews : ∀ (j : Nat) (u : Value), news[j]? = some u → w.cell? (ad.add j) = some u) (h1 : ∀ u ∈ news, u.oneCell' = true)
    (h63 : n + m ≤ maxLen) (hbytes : (n + m) * bytes ≤ 140737488355328) (hbase : base ≤ w.heap.size)
    (h : ∀ A' c' w', w'.ownsRow base e size (.slice A' (n + m) c') (n + m) (xs ++ news) → w.grownBy w' v.ownBlock → ((Value.slice A' (n + m) c').ownBlock = v.ownBlock ∨ (Value.slice A' (n + m) c').ownBlock = some w.heap.size) → K (a.put o.dst (.slice A' (n + m) c')) w') : o.wp P a w K Q := by
  obtain ⟨v', w', hrun, h2, h3, _, h5⟩ := run_append_own_at (P := P) w base t o.type e i z size bytes ht hi hz hsize hby hzs hsz v n xs hown ad m c news hl hnews h1 h63 hbytes hbase
  obtain ⟨A', c', hv⟩ := own_slice h2
  subst hv
  unfold Oper.wp execOp
  simp only [ho, resolve, invoke, builtin, Sem.run_bind, Sem.run_pure, Result.andThen_ok, List.map_toArray, List.map_cons, List.map_nil, hs, hx, hrun]
  exact h A' c' w' h2 h3 h5
theorem step_append_at {ops : Array Oper} {o : Oper} {a : Act} {K : Act → World → Prop} {Q : Exit → Act → World → Prop} {E : Prop} (hgd : o.guard = none) (s x : Operand) (t : TypeId)
    (ho : o.op = .call { callee := .builtin .append, args := #[s, x], argTypes := #[t, t] })
    (base : Nat) (e : TypeId) (i : TypeInfo) (z : Value) (size bytes : Nat) (ht : P.underlying t = some (.slice e)) (hi : P.info? e = some i) (hz : i.zero = some z)
    (hsize : i.size = size) (hby : i.bytes = bytes) (hzs : z.cells.size = size) (hsz : 0 < size)
    (v : Value) (n : Nat) (xs : List Value) (hs : a.eval s = v) (hown : w.ownsRow base e size v n xs)
    (ad : Addr) (m c : Nat) (news : List Value) (hx : a.eval x = .slice (some ad) m c) (hl : news.length = m * size) (hnews : ∀ (j : Nat) (u : Value), news[j]? = some u → w.cell? (ad.add j) = some u) (h1 : ∀ u ∈ news, u.oneCell' = true)
    (h63 : n + m ≤ maxLen) (hbytes : (n + m) * bytes ≤ 140737488355328) (hbase : base ≤ w.heap.size)
    (h : ∀ A' c' w', w'.ownsRow base e size (.slice A' (n + m) c') (n + m) (xs ++ news) → w.grownBy w' v.ownBlock → ((Value.slice A' (n + m) c').ownBlock = v.ownBlock ∨ (Value.slice A' (n + m) c').ownBlock = some w.heap.size) → K (a.put o.dst (.slice A' (n + m) c')) w') :
    if Region.wanted o (yielded ops a.tmps) = true then Oper.wp P o a w K Q else E := by
  have hw : Region.wanted o (yielded ops a.tmps) = true := by simp [Region.wanted, hgd]
  rw [if_pos hw]
  exact wp_append_at w s x t ho base e i z size bytes ht hi hz hsize hby hzs hsz v n xs hs hown ad m c news hx hl hnews h1 h63 hbytes hbase h
theorem wpList_append_at {ops : Array Oper} {rest : List Oper} {o : Oper} {a : Act} {Q : Exit → Act → World → Prop} (hgd : o.guard = none) (s x : Operand) (t : TypeId)
    (ho : o.op = .call { callee := .builtin .append, args := #[s, x], argTypes := #[t, t] })
    (base : Nat) (e : TypeId) (i : TypeInfo) (z : Value) (size bytes : Nat) (ht : P.underlying t = some (.slice e)) (hi : P.info? e = some i) (hz : i.zero = some z)
    (hsize : i.size = size) (hby : i.bytes = bytes) (hzs : z.cells.size = size) (hsz : 0 < size)
    (v : Value) (n : Nat) (xs : List Value) (hs : a.eval s = v) (hown : w.ownsRow base e size v n xs)
    (ad : Addr) (m c : Nat) (news : List Value) (hx : a.eval x = .slice (some ad) m c) (hl : news.length = m * size) (hnews : ∀ (j : Nat) (u : Value), news[j]? = some u → w.cell? (ad.add j) = some u) (h1 : ∀ u ∈ news, u.oneCell' = true)
    (h63 : n + m ≤ maxLen) (hbytes : (n + m) * bytes ≤ 140737488355328) (hbase : base ≤ w.heap.size)
    (h : ∀ A' c' w', w'.ownsRow base e size (.slice A' (n + m) c') (n + m) (xs ++ news) → w.grownBy w' v.ownBlock → ((Value.slice A' (n + m) c').ownBlock = v.ownBlock ∨ (Value.slice A' (n + m) c').ownBlock = some w.heap.size) → wpList P ops Q rest (a.put o.dst (.slice A' (n + m) c')) w') : wpList P ops Q (o :: rest) a w :=
  wpList_plain hgd fun _ hK => wp_append_at w s x t ho base e i z size bytes ht hi hz hsize hby hzs hsz v n xs hs hown ad m c news hx hl hnews h1 h63 hbytes hbase fun A' c' w' h2 h3 h4 => hK _ _ (h A' c' w' h2 h3 h4)
end

/-- A device stored over the i-th one of the row. -/
theorem OArr.set {E : TypeId} {w : World} {base g : Nat} {n c : Nat} {a : List Dev} (h : OArr E w base (.slice (some ⟨g, 0, none⟩) n c) a) {i : Nat} (hi : i < a.length) {x1 x2 : Value} {d : Dev} (hd : RDevG g w [x1, x2] d) (n1 : New base x1) (n2 : New base x2) :
    OArr E ((w.setCell ⟨g, i * 2, none⟩ x1).setCell ⟨g, i * 2 + 1, none⟩ x2) base (.slice (some ⟨g, 0, none⟩) n c) (a.set i d) := by
  obtain ⟨vs, hl, ⟨hlen, ho⟩, hr, hn⟩ := h
  refine ⟨vs.set i (x1, x2), by simp [hl], ⟨?_, ?_⟩, ?_, fun k p hp => ?_⟩
  rotate_left 3
  · rw [List.getElem?_set] at hp
    split at hp
    · split at hp
      · injection hp with hp; subst hp; exact ⟨n1, n2⟩
      · cases hp
    · exact hn k p hp
  · rw [length_flatMap pair_len]; simp [hl]
  · rcases ho with ⟨hv, _⟩ | ⟨g', cap, cur, hv, hb, hg, hnc, hm, hcs, htake⟩
    · cases hv
    · right
      injection hv with h1 h2 h3
      injection h1 with h1
      injection h1 with h1
      subst h1
      have hB : Blk_ w g E cur := hg
      have hB2 := (hB.set (i * 2) x1).set (i * 2 + 1) x2
      refine ⟨g, cap, (cur.setIfInBounds (i * 2) x1).setIfInBounds (i * 2 + 1) x2, by rw [h2, h3]; simp, hb, hB2, by simpa using hnc, hm, by simp [hcs], ?_⟩
      have hsz : a.length * 2 ≤ cur.size := by rw [hcs]; exact Nat.mul_le_mul_right _ hnc
      apply List.ext_getElem?
      intro j
      rw [List.length_set, List.getElem?_take]
      by_cases hj : j < a.length * 2
      · rw [if_pos hj]
        have hq : j / 2 < vs.length := by omega
        have hmod : j % 2 < 2 := Nat.mod_lt _ (by decide)
        have hj2 : j / 2 * 2 + j % 2 = j := by omega
        have e1 := flatMap_at pair_len (vs.set i (x1, x2)) (j / 2) (j % 2) (by simpa using hq) hmod
        have e2 := flatMap_at pair_len vs (j / 2) (j % 2) hq hmod
        rw [hj2] at e1 e2
        rw [e1]
        have e3 : cur.toList[j]? = (pair vs[j / 2])[j % 2]? := by
          rw [← e2, ← htake, List.getElem?_take, if_pos hj]
        simp only [Array.toList_setIfInBounds, List.getElem?_set, List.length_set, Array.length_toList]
        rw [List.getElem_set]
        by_cases h1 : i * 2 + 1 = j
        · rw [if_pos h1, if_pos (by omega), if_pos (by omega), show j % 2 = 1 by omega]; rfl
        · rw [if_neg h1]
          by_cases h2 : i * 2 = j
          · rw [if_pos h2, if_pos (by omega), if_pos (by omega), show j % 2 = 0 by omega]; rfl
          · rw [if_neg h2, if_neg (by omega), e3]
      · rw [if_neg hj, List.getElem?_eq_none]
        rw [length_flatMap pair_len]; simp; omega
  · intro g' hg' k hk p hp
    have hgg : g' = g := by simp [Value.ownBlock] at hg'; exact hg'.symm
    subst hgg
    rw [List.getElem?_set] at hp
    have key : ∀ cs d0, RDevG g' w cs d0 → RDevG g' ((w.setCell ⟨g', i * 2, none⟩ x1).setCell ⟨g', i * 2 + 1, none⟩ x2) cs d0 := fun cs d0 h0 => (h0.far (p := ⟨g', i * 2, none⟩) x1).far (p := ⟨g', i * 2 + 1, none⟩) x2
    by_cases hki : i = k
    · subst hki
      rw [if_pos rfl] at hp
      split at hp
      · injection hp with hp; subst hp
        rw [List.getElem_set_self]
        exact key _ _ hd
      · cases hp
    · rw [if_neg hki] at hp
      rw [List.getElem_set_ne hki]
      exact key _ _ (hr g' (by simp [Value.ownBlock]) k (by simpa using hk) p hp)
end Go.Proofs.YtokpjgpdkmimgaaDoor
