/-
  A catalog out of bytes, read byte by byte, in plain Lean: what each reading leaves. Conditions: none.
-/
import Derived.Test.YtgjijcgkmofaaaaGreatDoorK15
namespace Go.Proofs.YtgjijcgkmofaaaaGreatDoor
set_option linter.unusedSimpArgs false
set_option linter.unusedVariables false
open Go.RowKit

def nextV (s : ByteArray) (i : Nat) : Int := (((lst s).getD i 0).toNat : Int)
def nextI (s : ByteArray) (i : Nat) : Nat := if i < s.size then i + 1 else i
def nextH (s : ByteArray) (i : Nat) (sh : Bool) : Bool := if i < s.size then sh else true
def rr (s : ByteArray) (i : Nat) : ByteArray := bs ((lst s).drop i)
def eO (sh : Bool) : Int := if sh then 5 else 0
theorem nextI_le {s : ByteArray} {i : Nat} (h : i ≤ s.size) : nextI s i ≤ s.size := by unfold nextI; split <;> omega
theorem nextV_range (s : ByteArray) (i : Nat) : 0 ≤ nextV s i ∧ nextV s i ≤ 255 := by unfold nextV; have := u8_bd ((lst s).getD i 0); omega
theorem rr_cons {s : ByteArray} {i : Nat} (h : i < s.size) : lst (rr s i) = (lst s).getD i 0 :: (lst s).drop (i + 1) := by
  unfold rr
  have hi : i < (lst s).length := by rw [length_lst]; exact h
  rw [lst_bs, List.drop_eq_getElem_cons hi, List.getD_eq_getElem?_getD, List.getElem?_eq_getElem hi]
  rfl
theorem rr_eq {s : ByteArray} {i : Nat} (h : i < s.size) : rr s i = bs ((lst s).getD i 0 :: (lst s).drop (i + 1)) := by rw [← rr_cons h, bs_lst]
theorem rr_end {s : ByteArray} {i : Nat} (h : ¬ i < s.size) : rr s i = bs [] := by
  unfold rr
  rw [List.drop_of_length_le (by rw [length_lst]; omega)]
theorem rr_zero (s : ByteArray) : rr s 0 = s := by unfold rr; rw [List.drop_zero, bs_lst]
theorem BSt.any {R : Cat × Int} {j j' : Nat} {p p' : Int} {bl bl' : List Blk} {r r' : ByteArray} (h : BSt R j p bl r 5) : BSt R j' p' bl' r' 5 := by
  rcases h with ⟨h, _⟩ | h
  · exact absurd h (by decide)
  · exact .inr h
theorem ESt.any {R : Cat × Int} {j j' : Nat} {bl bl' : List Blk} {es es' : List Ent} {r r' : ByteArray} (h : ESt R j bl es r 5) : ESt R j' bl' es' r' 5 := .inr ⟨rfl, h.bad⟩
theorem BSt.start2 (s : ByteArray) : BSt (decCatS s) (nextV s 0).toNat 8 [] (rr s (nextI s 0)) (eO (nextH s 0 false)) := by
  have h := BSt.start s
  by_cases h0 : 0 < s.size
  · have e : s = bs ((lst s).getD 0 0 :: (lst s).drop 1) := by rw [← rr_eq h0, rr_zero]
    have e1 : numR s 0 1 = (nextV s 0, rr s 1, 0) := by
      conv => lhs; rw [e]
      rw [n1_ok]; rfl
    rw [e1] at h
    unfold nextI nextH
    rw [if_pos h0, if_pos h0]
    exact h
  · have e : s = bs [] := by rw [← rr_end h0, rr_zero]
    have e1 : numR s 0 1 = (0, bs [], 5) := by
      conv => lhs; rw [e]
      exact n1_no
    rw [e1] at h
    unfold nextI nextH
    rw [if_neg h0, if_neg h0]
    exact h.any
theorem BSt.two {R : Cat × Int} {j : Nat} {p : Int} {bl : List Blk} {s : ByteArray} {i : Nat} (h : BSt R (j + 1) p bl (rr s i) 0) :
    BSt R j (p + secs (256 * nextV s i + nextV s (nextI s i))) (bl ++ [⟨p, 256 * nextV s i + nextV s (nextI s i)⟩]) (rr s (nextI s (nextI s i))) (eO (nextH s (nextI s i) (nextH s i false))) := by
  have h2 := h.step
  by_cases h0 : i < s.size
  · by_cases h1 : i + 1 < s.size
    · have e : numR (rr s i) 0 2 = (256 * nextV s i + nextV s (i + 1), rr s (i + 2), 0) := by
        rw [rr_eq h0, ← lst_bs ((lst s).drop (i + 1)), show bs ((lst s).drop (i + 1)) = rr s (i + 1) from rfl, rr_cons h1, n2_ok]
        rfl
      rw [e] at h2
      have e1 : nextI s i = i + 1 := if_pos h0
      have e2 : nextI s (i + 1) = i + 2 := if_pos h1
      have e3 : nextH s i false = false := if_pos h0
      have e4 : nextH s (i + 1) false = false := if_pos h1
      rw [e1, e2, e3, e4]
      exact h2
    · have e : numR (rr s i) 0 2 = (0, rr s i, 5) := by
        rw [rr_eq h0]
        exact n2_no (by rw [List.length_cons, List.length_drop, length_lst]; omega)
      rw [e] at h2
      have e1 : nextI s i = i + 1 := if_pos h0
      have e4 : nextH s (i + 1) (nextH s i false) = true := if_neg h1
      rw [e1, e4]
      exact h2.any
  · have e : numR (rr s i) 0 2 = (0, rr s i, 5) := by
      rw [rr_end h0]
      exact n2_no (by simp)
    rw [e] at h2
    have e1 : nextI s i = i := if_neg h0
    have e4 : nextH s i (nextH s i false) = true := if_neg h0
    rw [e1, e4]
    exact h2.any
theorem BSt.mid2 {R : Cat × Int} {p : Int} {bl : List Blk} {s : ByteArray} {i : Nat} {sh : Bool} (h : BSt R 0 p bl (rr s i) (eO sh) ∨ (sh = true ∧ R = (noCat, 5))) : ESt R (nextV s i).toNat bl [] (rr s (nextI s i)) (eO (nextH s i sh)) := by
  have bad : R = (noCat, 5) → sh = true → ESt R (nextV s i).toNat bl [] (rr s (nextI s i)) (eO (nextH s i sh)) := fun hR hs => by
    have e : nextH s i sh = true := by unfold nextH; split <;> simp [hs]
    rw [e]
    exact .inr ⟨rfl, hR⟩
  cases sh with
  | true =>
    refine bad ?_ rfl
    rcases h with (⟨h, _⟩ | ⟨_, h⟩) | ⟨_, h⟩
    · exact absurd h (by decide)
    · exact h
    · exact h
  | false =>
    have h' : BSt R 0 p bl (rr s i) 0 := by
      rcases h with h | ⟨h, _⟩
      · exact h
      · cases h
    have h2 := (BSt.mid (.inl h')).1
    by_cases h0 : i < s.size
    · have e : numR (rr s i) 0 1 = (nextV s i, rr s (i + 1), 0) := by rw [rr_eq h0, n1_ok]; rfl
      rw [e] at h2
      have e1 : nextI s i = i + 1 := if_pos h0
      have e3 : nextH s i false = false := if_pos h0
      rw [e1, e3]
      exact h2
    · have e : numR (rr s i) 0 1 = (0, bs [], 5) := by rw [rr_end h0]; exact n1_no
      rw [e] at h2
      have e3 : nextH s i false = true := if_neg h0
      rw [e3]
      exact h2.any
theorem ent_none {s : ByteArray} {i j : Nat} (h : ¬ (i < s.size ∧ i + 1 + ((lst s).getD i 0).toNat + 4 ≤ s.size)) : decEnts (j + 1) (lst (rr s i)) = none := by
  by_cases h0 : i < s.size
  · rw [rr_cons h0, decEnts, if_pos]
    rw [List.length_drop, length_lst]
    omega
  · rw [rr_end h0]; rfl
theorem ESt.none_ {R : Cat × Int} {j : Nat} {bl : List Blk} {es : List Ent} {r : ByteArray} (h : ESt R j bl es r 0) (hn : decEnts j (lst r) = none) : R = (noCat, 5) := by
  rcases h with ⟨_, h⟩ | ⟨h, _⟩
  · rw [h, hn]; rfl
  · exact absurd h (by decide)
/-- The name goes beyond the end. -/
theorem ESt.over {R : Cat × Int} {j m : Nat} {bl : List Blk} {es : List Ent} {s : ByteArray} {i : Nat} (h : ESt R (j + 1) bl es (rr s i) 0) (hi : i ≤ s.size) (hm : nextV s i = (m : Int)) (ho : s.size < nextI s i + m) : R = (noCat, 5) := by
  refine h.none_ (ent_none ?_)
  rintro ⟨h0, h1⟩
  have e1 : nextI s i = i + 1 := if_pos h0
  have : ((lst s).getD i 0).toNat = m := by unfold nextV at hm; omega
  omega
theorem ESt.entry {R : Cat × Int} {j m : Nat} {bl : List Blk} {es : List Ent} {s : ByteArray} {i i1 i2 i3 i4 i5 i6 : Nat} {sh6 : Bool} (h : ESt R (j + 1) bl es (rr s i) 0) (hi : i ≤ s.size) (hm : nextV s i = (m : Int)) (ho : i1 + m ≤ s.size)
    (e1 : i1 = nextI s i) (e2 : i2 = i1 + m) (e3 : i3 = nextI s i2) (e4 : i4 = nextI s i3) (e5 : i5 = nextI s i4) (e6 : i6 = nextI s i5) (e7 : sh6 = nextH s i5 (nextH s i4 (nextH s i3 (nextH s i2 (nextH s i false))))) :
    ESt R j bl (es ++ [⟨s.extract i1 i2, nextV s i2, 256 * nextV s i3 + nextV s i4, nextV s i5⟩]) (rr s i6) (eO sh6) := by
  by_cases hall : i < s.size ∧ i + 1 + ((lst s).getD i 0).toNat + 4 ≤ s.size
  · obtain ⟨h0, h1⟩ := hall
    have hm' : ((lst s).getD i 0).toNat = m := by unfold nextV at hm; omega
    have q1 : i1 = i + 1 := e1.trans (if_pos h0)
    subst q1
    subst e2
    have q3 : i3 = i + 1 + m + 1 := e3.trans (if_pos (by omega))
    subst q3
    have q4 : i4 = i + 1 + m + 1 + 1 := e4.trans (if_pos (by omega))
    subst q4
    have q5 : i5 = i + 1 + m + 1 + 1 + 1 := e5.trans (if_pos (by omega))
    subst q5
    have q6 : i6 = i + 1 + m + 1 + 1 + 1 + 1 := e6.trans (if_pos (by omega))
    subst q6
    have q7 : sh6 = false := by
      rw [e7]
      unfold nextH
      rw [if_pos (by omega), if_pos (by omega), if_pos (by omega), if_pos (by omega), if_pos h0]
    subst q7
    have n0 : numR (rr s i) 0 1 = (nextV s i, rr s (i + 1), 0) := by rw [rr_eq h0, n1_ok]; rfl
    have n2 : takeR (rr s (i + 1)) 0 m = (s.extract (i + 1) (i + 1 + m), rr s (i + 1 + m), 0) := by
      unfold rr
      rw [tk_ok (by rw [List.length_drop, length_lst]; omega), List.drop_drop]
      congr 1
      have : lst (s.extract (i + 1) (i + 1 + m)) = ((lst s).drop (i + 1)).take m := by
        rw [lst_extract]; unfold sub_; rw [List.take_drop]
      rw [← this, bs_lst]
    have n3 : numR (rr s (i + 1 + m)) 0 1 = (nextV s (i + 1 + m), rr s (i + 1 + m + 1), 0) := by rw [rr_eq (by omega), n1_ok]; rfl
    have n4 : numR (rr s (i + 1 + m + 1)) 0 2 = (256 * nextV s (i + 1 + m + 1) + nextV s (i + 1 + m + 1 + 1), rr s (i + 1 + m + 1 + 1 + 1), 0) := by
      rw [rr_eq (by omega), ← lst_bs ((lst s).drop (i + 1 + m + 1 + 1)), show bs ((lst s).drop (i + 1 + m + 1 + 1)) = rr s (i + 1 + m + 1 + 1) from rfl, rr_cons (by omega), n2_ok]
      rfl
    have n5 : numR (rr s (i + 1 + m + 1 + 1 + 1)) 0 1 = (nextV s (i + 1 + m + 1 + 1 + 1), rr s (i + 1 + m + 1 + 1 + 1 + 1), 0) := by rw [rr_eq (by omega), n1_ok]; rfl
    exact ESt.step h (by rw [n0]; exact hm) (s.extract (i + 1) (i + 1 + m), rr s (i + 1 + m), 0) (by rw [n0]; exact n2.symm) (nextV s (i + 1 + m), rr s (i + 1 + m + 1), 0) (256 * nextV s (i + 1 + m + 1) + nextV s (i + 1 + m + 1 + 1), rr s (i + 1 + m + 1 + 1 + 1), 0) (nextV s (i + 1 + m + 1 + 1 + 1), rr s (i + 1 + m + 1 + 1 + 1 + 1), 0) n3.symm n4.symm n5.symm
  · have hR := h.none_ (ent_none hall)
    have hsh : sh6 = true := by
      rw [e7]
      by_cases h0 : i < s.size
      · have hm' : ((lst s).getD i 0).toNat = m := by unfold nextV at hm; omega
        have q1 : i1 = i + 1 := e1.trans (if_pos h0)
        have k3 : nextI s i2 = if i2 < s.size then i2 + 1 else i2 := rfl
        unfold nextH
        by_cases a2 : i2 < s.size
        · have q3 : i3 = i2 + 1 := e3.trans (if_pos a2)
          by_cases a3 : i3 < s.size
          · have q4 : i4 = i3 + 1 := e4.trans (if_pos a3)
            by_cases a4 : i4 < s.size
            · have q5 : i5 = i4 + 1 := e5.trans (if_pos a4)
              rw [if_neg (by omega)]
            · have q5 : i5 = i4 := e5.trans (if_neg a4)
              rw [if_neg (by omega)]
          · have q4 : i4 = i3 := e4.trans (if_neg a3)
            have q5 : i5 = i4 := e5.trans (if_neg (by omega))
            rw [if_neg (by omega)]
        · have q3 : i3 = i2 := e3.trans (if_neg a2)
          have q4 : i4 = i3 := e4.trans (if_neg (by omega))
          have q5 : i5 = i4 := e5.trans (if_neg (by omega))
          rw [if_neg (by omega)]
      · unfold nextH
        have q1 : i1 = i := e1.trans (if_neg h0)
        have q3 : i3 = i2 := e3.trans (if_neg (by omega))
        have q4 : i4 = i3 := e4.trans (if_neg (by omega))
        have q5 : i5 = i4 := e5.trans (if_neg (by omega))
        rw [if_neg (by omega)]
    rw [hsh]
    exact .inr ⟨rfl, hR⟩
end Go.Proofs.YtgjijcgkmofaaaaGreatDoor

/-
  The document's catalog out of bytes, and the law: catalog.Decode answers as it does. Conditions: none.
-/
namespace Go.Proofs.YtgjijcgkmofaaaaGreatDoor
set_option linter.unusedSimpArgs false
set_option linter.unusedVariables false
open Go.RowKit

theorem Blk_.new3 (w : World) (o o' o'' : Obj) (t : TypeId) (cs : Array Value) : Blk_ ((((w.alloc o).alloc o').alloc o'').alloc (.cells cs t)) (w.heap.size + 3) t cs := by
  have := Blk_.new (((w.alloc o).alloc o').alloc o'') t cs
  simpa [World.size_alloc] using this
theorem Blk_.new4 (w : World) (o o' o'' o3 : Obj) (t : TypeId) (cs : Array Value) : Blk_ (((((w.alloc o).alloc o').alloc o'').alloc o3).alloc (.cells cs t)) (w.heap.size + 4) t cs := by
  have := Blk_.new ((((w.alloc o).alloc o').alloc o'').alloc o3) t cs
  simpa [World.size_alloc] using this
/-- All that the document's reading works on. -/
def TX (s : ByteArray) (w W : World) (i : Nat) (sh : Bool) (V1 V2 : Value) (bl : List Blk) (es : List Ent) : Prop :=
  CX w W (w.heap.size + 4) (w.heap.size + 5) V1 V2 bl es ∧ Blk_ W w.heap.size 9 #[.string s] ∧ Blk_ W (w.heap.size + 1) 88 #[.slice none 0 0, .slice none 0 0] ∧ Blk_ W (w.heap.size + 2) 3 #[.int .i64 (i : Int)] ∧ Blk_ W (w.heap.size + 3) 4 #[.bool sh]
section
variable {s : ByteArray} {w W W' : World} {i : Nat} {sh : Bool} {V1 V2 V1' V2' : Value} {bl : List Blk} {es : List Ent}
theorem TX.up (h : TX s w W i sh V1 V2 bl es) (k : Ext W W') : TX s w W' i sh V1 V2 bl es := ⟨h.1.up k, h.2.1.ext k, h.2.2.1.ext k, h.2.2.2.1.ext k, h.2.2.2.2.ext k⟩
theorem TX.setI (h : TX s w W i sh V1 V2 bl es) (n : Nat) : TX s w (W.setCell ⟨w.heap.size + 2, 0, none⟩ (.int .i64 (n : Int))) n sh V1 V2 bl es :=
  ⟨h.1.by_ (setRow_by W (w.heap.size + 2) 0 _) (by omega) (by omega) (by omega), h.2.1.far (by dsimp only; omega) _, h.2.2.1.far (by dsimp only; omega) _, h.2.2.2.1.set 0 _, h.2.2.2.2.far (by dsimp only; omega) _⟩
theorem TX.setH (h : TX s w W i sh V1 V2 bl es) (b : Bool) : TX s w (W.setCell ⟨w.heap.size + 3, 0, none⟩ (.bool b)) i b V1 V2 bl es :=
  ⟨h.1.by_ (setRow_by W (w.heap.size + 3) 0 _) (by omega) (by omega) (by omega), h.2.1.far (by dsimp only; omega) _, h.2.2.1.far (by dsimp only; omega) _, h.2.2.2.1.far (by dsimp only; omega) _, h.2.2.2.2.set 0 _⟩
theorem TX.off {g : Nat} (h : TX s w W i sh V1 V2 bl es) (hg : w.heap.size + 5 ≤ g) (h1 : V1.ownBlock ≠ some g) (h2 : V2.ownBlock ≠ some g) (k : Nat) (u : Value) : TX s w (W.setCell ⟨g, k, none⟩ u) i sh V1 V2 bl es :=
  ⟨h.1.off (setRow_by W g k u) (by omega) (by omega) h1 h2, h.2.1.far (by dsimp only; omega) _, h.2.2.1.far (by dsimp only; omega) _, h.2.2.2.1.far (by dsimp only; omega) _, h.2.2.2.2.far (by dsimp only; omega) _⟩
theorem TX.pushB {b : Blk} (h : TX s w W i sh V1 V2 bl es) (hg : W.grownBy W' V1.ownBlock) (ho : W'.ownsRow (w.heap.size + 5) 108 2 V1' (bl.length + 1) (bl.flatMap encBlk ++ [.int .i64 b.first, .int .i64 b.bytes])) (h1 : I64 b.first) (h2 : I64 b.bytes) :
    TX s w (W'.setCell ⟨w.heap.size + 4, 0, none⟩ V1') i sh V1' V2 (bl ++ [b]) es :=
  ⟨h.1.pushB hg ho h1 h2, (h.2.1.grown hg (fun k hk => by have := (h.1.o1.lt k hk).1; omega)).far (by dsimp only; omega) _, (h.2.2.1.grown hg (fun k hk => by have := (h.1.o1.lt k hk).1; omega)).far (by dsimp only; omega) _, (h.2.2.2.1.grown hg (fun k hk => by have := (h.1.o1.lt k hk).1; omega)).far (by dsimp only; omega) _, (h.2.2.2.2.grown hg (fun k hk => by have := (h.1.o1.lt k hk).1; omega)).far (by dsimp only; omega) _⟩
theorem TX.pushE {x : Ent} (h : TX s w W i sh V1 V2 bl es) (hg : W.grownBy W' V2.ownBlock) (ho : W'.ownsRow (w.heap.size + 5) 113 4 V2' (es.length + 1) (es.flatMap encEnt ++ [.string x.name, .int .i64 x.block, .int .i64 x.at_, .int .i64 x.bytes])) (hx : EntOk x) :
    TX s w (W'.setCell ⟨w.heap.size + 4, 1, none⟩ V2') i sh V1 V2' bl (es ++ [x]) :=
  ⟨h.1.pushE hg ho hx, (h.2.1.grown hg (fun k hk => by have := (h.1.o2.lt k hk).1; omega)).far (by dsimp only; omega) _, (h.2.2.1.grown hg (fun k hk => by have := (h.1.o2.lt k hk).1; omega)).far (by dsimp only; omega) _, (h.2.2.2.1.grown hg (fun k hk => by have := (h.1.o2.lt k hk).1; omega)).far (by dsimp only; omega) _, (h.2.2.2.2.grown hg (fun k hk => by have := (h.1.o2.lt k hk).1; omega)).far (by dsimp only; omega) _⟩
end

end Go.Proofs.YtgjijcgkmofaaaaGreatDoor

/-
  archive.Open and the document's OpenedOf: the catalog of an archive; the law ArchiveOpens. Conditions: the argument reads as an array.
-/
namespace Go.Proofs.YtgjijcgkmofaaaaGreatDoor
set_option linter.unusedSimpArgs false
set_option linter.unusedVariables false
open Go.RowKit

def openS (a : List Dev) : Cat × Int := if (streamReadS a 0 192).2 = 0 then decCatS (streamReadS a 0 192).1 else (noCat, (streamReadS a 0 192).2)
theorem open_ok {a : List Dev} (h : (streamReadS a 0 192).2 = 0) : openS a = decCatS (streamReadS a 0 192).1 := by unfold openS; rw [if_pos h]
theorem open_bad {a : List Dev} (h : ¬ (streamReadS a 0 192).2 = 0) : openS a = (noCat, (streamReadS a 0 192).2) := by unfold openS; rw [if_neg h]
theorem stream_small (a : List Dev) (first n : Int) (hn : n ≤ 140737488355328) : (streamReadS a first n).1.size ≤ 140737488355328 := by
  unfold streamReadS
  split
  · exact Nat.zero_le _
  · split
    · exact Nat.zero_le _
    · show (ByteArray.extract _ 0 n.toNat).size ≤ _
      rw [ByteArray.size_extract]; omega
/-- A row's cells are not those of a box of slices. -/
theorem av_box {α : Type} {C bytes : Nat} {R : Rd α} {enc : α → List Value} (he : Enc C R enc) {w : World} {v : Value} {l : List α} {g : Nat} {t : TypeId} {A A' : Option Addr} {n c n' c' : Nat} (h : SlR C bytes R w v l) (hb : Blk_ w g t #[.slice A n c, .slice A' n' c'])
    (hne : ∀ a, ∃ u, (enc a)[0]? = some u ∧ ∀ B m k, u ≠ .slice B m k) : Av g v := by
  obtain ⟨A1, cap, e, hb1, hc1, h⟩ := h
  intro b o s m k ev
  rw [e] at ev
  injection ev with h1 h2 h3
  rcases h with h | ⟨b', o', hA, h⟩
  · left; rw [← h2, h]; rfl
  · by_cases h0 : l.length = 0
    · left; omega
    · right
      rw [hA] at h1
      injection h1 with h1
      injection h1 with h1 h1' h1''
      subst h1
      rintro rfl
      obtain ⟨cs, hl, hcell, hr⟩ := h 0 (by omega)
      obtain ⟨u, hu, hun⟩ := hne (l[0]'(by omega))
      have hcs := he.cs _ _ _ hr
      have hC : 0 < C := by
        rw [← he.len (l[0]'(by omega))]
        exact (List.getElem?_eq_some_iff.1 hu).1
      have hc := hcell 0 hC
      rw [hcs, hu, hb.cell] at hc
      match hq : o' + 0 * C + 0, hc with
      | 0, hc => simp at hc; exact hun _ _ _ hc.symm
      | 1, hc => simp at hc; exact hun _ _ _ hc.symm
      | j + 2, hc => simp at hc
theorem RCat.off {w : World} {V1 V2 : Value} {d : Cat} {g k : Nat} {t : TypeId} {A A' : Option Addr} {n c n' c' : Nat} (h : RCat w [V1, V2] d) (hb : Blk_ w g t #[.slice A n c, .slice A' n' c']) (u : Value) : RCat (w.setCell ⟨g, k, none⟩ u) [V1, V2] d := by
  obtain ⟨v1, v2, e, h1, h2⟩ := h
  simp only [List.cons.injEq, and_true] at e
  obtain ⟨rfl, rfl⟩ := e
  exact ⟨_, _, rfl, h1.far encBlk_ok (p := ⟨g, k, none⟩) (av_box encBlk_ok h1 hb (fun a => ⟨_, rfl, fun _ _ _ h => by cases h⟩)) u, h2.far encEnt_ok (p := ⟨g, k, none⟩) (av_box encEnt_ok h2 hb (fun a => ⟨_, rfl, fun _ _ _ h => by cases h⟩)) u⟩

set_option maxRecDepth 100000 in
set_option maxHeartbeats 1000000 in
theorem archOpen_any (cs : List Value) (a : List Dev) (w : World) (h : RArr w cs a) :
    Calls Tryz.prog 45 #[.agg cs.toArray] w fun e w' => ∃ A1 c1 A2 c2, e = .returned (.tuple #[.agg #[.slice A1 (openS a).1.blocks.length c1, .slice A2 (openS a).1.entries.length c2], .int .i64 (openS a).2]) ∧ Ext w w' ∧ RCat w' [.slice A1 (openS a).1.blocks.length c1, .slice A2 (openS a).1.entries.length c2] (openS a).1 := by
  obtain ⟨A, c, rfl⟩ := h.form
  go_enter Tryz.func45, Tryz.ntmps45
  go_wp2_with fail
  refine calls_abs (fun W => Ext w W ∧ Blk_ W (w.heap.size + 1) 88 #[.slice none 0 0, .slice none 0 0]) ⟨((Ext.refl _).alloc _).alloc _, Blk_.new1 _ _ _ _⟩ ?_
  rintro W ⟨hx, hb⟩
  refine (streamRead_any [.slice A a.length c] a 0 192 W (h.up hx) (by unfold I64; omega) (by unfold I64; omega)).mono ?_
  rintro e w1 ⟨rfl, hx1⟩
  have HOK := Lib.hid (fun hu => open_ok (a := a) hu)
  have HBAD := Lib.hid (fun hu => open_bad (a := a) hu)
  have hsz := stream_small a 0 192 (by omega)
  obtain ⟨S, hS⟩ : ∃ S, S = (streamReadS a 0 192).1 := ⟨_, rfl⟩
  obtain ⟨u, hu⟩ : ∃ u, u = (streamReadS a 0 192).2 := ⟨_, rfl⟩
  rw [← hS] at HOK hsz ⊢
  rw [← hu] at HOK HBAD ⊢
  have HX1 := Lib.hid (hx.trans hx1)
  have HB1 := Lib.hid (hb.ext hx1)
  have HSZ := Lib.hid hsz
  clear hS hu hx hx1 hb hsz h
  by_cases hu0 : u = 0
  · have HO := Lib.hid (HOK.out hu0)
    subst hu0
    clear HOK HBAD
    go_wp2_with fail
    refine (catDecode_any S w1 HSZ.out).mono ?_
    rintro e w2 ⟨A1, c1, A2, c2, rfl, hx2, hr⟩
    rw [← HO.out] at hr ⊢
    obtain ⟨d, hd⟩ : ∃ d, d = (openS a).1 := ⟨_, rfl⟩
    obtain ⟨v, hv⟩ : ∃ v, v = (openS a).2 := ⟨_, rfl⟩
    rw [← hd] at hr ⊢
    rw [← hv]
    have HD := Lib.hid (And.intro hd hv)
    have HB2 := Lib.hid (HB1.out.ext hx2)
    have HX2 := Lib.hid (HX1.out.trans hx2)
    have HR1 := Lib.hid (hr.off (k := 0) HB2.out (.slice A1 d.blocks.length c1))
    have HR2 := Lib.hid (HR1.out.off (k := 1) (HB2.out.set 0 (.slice A1 d.blocks.length c1)) (.slice A2 d.entries.length c2))
    clear hd hv hx2 hr
    have m0 := HB2.out.cell 0
    have m1 := HB2.out.cell 1
    have z0 := HB2.out.frozen 0
    have z1 := HB2.out.frozen 1
    simp at m0 m1
    go_wp2_with fail
    have HXX := Lib.hid ((HX2.out.setCell (p := ⟨w.heap.size + 1, 0, none⟩) (by dsimp only; omega) (.slice A1 d.blocks.length c1)).setCell (p := ⟨w.heap.size + 1, 1, none⟩) (by dsimp only; omega) (.slice A2 d.entries.length c2))
    have HRS := Lib.hid ((HB2.out.set 0 (.slice A1 d.blocks.length c1)).set 1 (.slice A2 d.entries.length c2))
    refine bodyPost_ret (res_cell_tmp rfl rfl HRS.out Tryz.underlying88 rfl (by kernel_rfl)) rfl ?_
    rw [← HD.out.1, ← HD.out.2]
    exact ⟨A1, c1, A2, c2, rfl, HXX.out, HR2.out⟩
  · have HO := Lib.hid (HBAD.out hu0)
    have hu1 : (u != 0) = true := by simp [bne, beq_false_of_ne hu0]
    clear HOK HBAD hu0
    have m0 := HB1.out.cell 0
    have m1 := HB1.out.cell 1
    have z0 := HB1.out.frozen 0
    have z1 := HB1.out.frozen 1
    simp at m0 m1
    go_wp2_with fail
    have HXX := Lib.hid ((HX1.out.setCell (p := ⟨w.heap.size + 1, 0, none⟩) (by dsimp only; omega) (.slice none 0 0)).setCell (p := ⟨w.heap.size + 1, 1, none⟩) (by dsimp only; omega) (.slice none 0 0))
    have HRS := Lib.hid ((HB1.out.set 0 (.slice none 0 0)).set 1 (.slice none 0 0))
    refine bodyPost_ret (res_cell_tmp rfl rfl HRS.out Tryz.underlying88 rfl (by kernel_rfl)) rfl ?_
    rw [HO.out]
    exact ⟨none, 0, none, 0, rfl, HXX.out, noCat_read _⟩

end Go.Proofs.YtgjijcgkmofaaaaGreatDoor

/-
  archive.Names and the document's NamesOf: the names of all files; the law ArchiveNames. Conditions: the argument reads as an array.
-/
namespace Go.Proofs.YtgjijcgkmofaaaaGreatDoor
set_option linter.unusedSimpArgs false
set_option linter.unusedVariables false
open Go.RowKit

theorem dec_bad {s : ByteArray} (h : ¬ (decCatS s).2 = 0) : (decCatS s).1 = noCat := by
  revert h
  unfold decCatS decCatL
  split
  · intro _; rfl
  · split
    · intro _; rfl
    · intro _; rfl
    · split
      · intro _; rfl
      · unfold endCat
        split
        · split
          · intro h; exact absurd rfl h
          · intro _; rfl
        · intro _; rfl
theorem open_none {a : List Dev} (h : ¬ (openS a).2 = 0) : (openS a).1 = noCat := by
  by_cases h0 : (streamReadS a 0 192).2 = 0
  · rw [open_ok h0] at h ⊢; exact dec_bad h
  · rw [open_bad h0]
def namesL (c : Cat) : List ByteArray := c.entries.map (·.name)
theorem names_step (c : Cat) (k : Nat) (h : k < c.entries.length) : ((namesL c).take (k + 1)).flatMap encStr = ((namesL c).take k).flatMap encStr ++ [.string c.entries[k].name] := by
  have hl : k < (namesL c).length := by unfold namesL; rw [List.length_map]; exact h
  have he : (namesL c)[k]'hl = c.entries[k].name := by simp [namesL]
  rw [List.take_succ_eq_append_getElem hl, List.flatMap_append, he]
  rfl

set_option maxRecDepth 100000 in
set_option maxHeartbeats 4000000 in
theorem archNames_any (cs : List Value) (a : List Dev) (w : World) (h : RArr w cs a) :
    Calls Tryz.prog 24 #[.agg cs.toArray] w fun e w' => ∃ A c, e = .returned (.tuple #[.slice A (namesL (openS a).1).length c, .int .i64 (openS a).2]) ∧ Ext w w' ∧ SlR 1 16 RStr w' (.slice A (namesL (openS a).1).length c) (namesL (openS a).1) := by
  obtain ⟨A, c, rfl⟩ := h.form
  obtain ⟨i1, hi1, za1, zb1, zc1⟩ := info_parts info_str
  have HI1 := Lib.hid (And.intro hi1 (And.intro za1 (And.intro zb1 zc1)))
  clear hi1 za1 zb1 zc1
  go_enter Tryz.func24, Tryz.ntmps24
  go_wp2_with fail
  refine calls_abs (fun W => Ext w W) ((Ext.refl _).alloc _) ?_
  intro W hx
  refine (archOpen_any [.slice A a.length c] a W (h.up hx)).mono ?_
  rintro e w1 ⟨A1, c1, A2, c2, rfl, hx1, hr1⟩
  have HBAD := Lib.hid (fun h => open_none (a := a) h)
  obtain ⟨d, hd⟩ : ∃ d, d = (openS a).1 := ⟨_, rfl⟩
  obtain ⟨u, hu⟩ : ∃ u, u = (openS a).2 := ⟨_, rfl⟩
  rw [← hd] at hr1 HBAD ⊢
  rw [← hu] at HBAD ⊢
  have HD := Lib.hid (And.intro hd hu)
  have HX1 := Lib.hid (hx.trans hx1)
  obtain ⟨V1, V2, hv, hs1, hs2⟩ := hr1
  simp only [List.cons.injEq, and_true] at hv
  obtain ⟨rfl, rfl⟩ := hv
  have HMEM := Lib.hid (hs2.mem encEnt_ok w1)
  have hlen := hs2.len
  obtain ⟨A2', c2', hv2, _, _, s1⟩ := hs2.rowE encEnt_ok
  injection hv2 with e1 e2 e3
  subst e1 e3
  have HS := Lib.hid s1
  have HL := Lib.hid (show d.entries.length * 40 ≤ 140737488355328 from hlen)
  have hnI : (d.entries.length : Int) ≤ 140737488355328 := by omega
  clear hd hu hx hx1 hs1 hs2 s1 hlen h
  by_cases hu0 : u = 0
  · subst hu0
    clear HBAD
    go_wp2_with fail
    go_loopw [6, 20] (fun ov kv wr => ∃ (k : Nat) (A : Option Addr) (c : Nat), ov = .slice A k c ∧ kv = .int .i64 k ∧ k ≤ d.entries.length ∧ Ext w1 wr ∧ w1.heap.size + 1 ≤ wr.heap.size ∧ wr.ownsRow (w1.heap.size + 1) 9 1 (.slice A k c) k (((namesL d).take k).flatMap encStr)) (fun _ kv _ => d.entries.length - (intOf kv).toNat)
    case atStart => exact ⟨0, none, 0, rfl, rfl, Nat.zero_le _, (Ext.refl _).alloc _, by rw [World.size_alloc]; exact Nat.le_refl _, World.ownsRow_nil _ _ _ _⟩
    case round =>
      obtain ⟨k, A, c, rfl, rfl, hk, hx, hsz, ho⟩ := hrel
      have HO := Lib.hid ho
      have HX := Lib.hid hx
      clear ho
      by_cases hlt : k < d.entries.length
      · obtain ⟨b2, o2, rfl, g1⟩ := HS.out k hlt
        have q0 := hx.cell (g1 k hlt 0 _ rfl)
        have q1 := hx.cell (g1 k hlt 1 _ rfl)
        have q2 := hx.cell (g1 k hlt 2 _ rfl)
        have q3 := hx.cell (g1 k hlt 3 _ rfl)
        simp only [Nat.add_zero] at q0
        have hst := names_step d k hlt
        obtain ⟨X, hX⟩ : ∃ X, X = d.entries[k] := ⟨_, rfl⟩
        rw [← hX] at q0 q1 q2 q3 hst
        have HST := Lib.hid hst
        have hki : (k : Int) < (d.entries.length : Int) := by omega
        have hkI : (k : Int) ≤ 140737488355328 := by omega
        have HLT := Lib.hid hlt
        clear hst hX g1 hx
        go_wp2_with (at_builtin; refine wpList_push (.tmp 24) (.tmp 27) 43 rfl rfl (w1.heap.size + 1) 9 i1 (.string .empty) 16 Tryz.underlying43 HI1.out.1 HI1.out.2.1 HI1.out.2.2.1 HI1.out.2.2.2 rfl _ k _ rfl (own_ext HO.out (((Ext.refl _).alloc _).alloc _)) (wr.heap.size + 1) 1 (.string X.name) rfl ?c1 rfl ?c2 ?c3 ?c4 ?_)
        case c1 => first | exact (Blk_.new _ _ _).cell 0 | exact (Blk_.new1 _ _ _ _).cell 0
        case c2 => have := HL.out; have := HLT.out; unfold maxLen; omega
        case c3 => have := HL.out; have := HLT.out; omega
        case c4 => simp only [World.size_alloc]; omega
        intro A7 c7 w7 own7 hg7 _
        have HX7 := Lib.hid ((HX.out.trans (((Ext.refl _).alloc _).alloc _)).grown hg7 (fun g hgg => by have := (HO.out.lt g hgg).1; omega))
        have HSZ7 := Lib.hid (show w1.heap.size + 1 ≤ w7.heap.size by have := hg7.size; simp only [World.size_alloc] at this; omega)
        have HO7 := Lib.hid own7
        rw [← HST.out] at HO7
        have HB7 := Lib.hid (And.intro True.intro True.intro)
        clear own7 hg7 q0 q1 q2 q3
        go_wp2_with fail
        go_roundw
        case rel => exact ⟨k + 1, A7, c7, rfl, by first | rfl | go_num, by have := HLT.out; omega, HX7.out, HSZ7.out, HO7.out⟩
        case measure => have := HLT.out; (simp [intOf]; try omega)
      · obtain rfl : k = d.entries.length := by omega
        have HNL := Lib.hid (show d.entries.length = (namesL d).length by unfold namesL; rw [List.length_map])
        have ho2 := HO.out
        rw [List.take_of_length_le (by rw [← HNL.out]; exact Nat.le_refl _)] at ho2
        have HRD := Lib.hid (show SlR 1 16 RStr wr (.slice A (namesL d).length c) (namesL d) from by
          rw [HNL.out] at ho2
          refine SlR.of_own encStr_ok ho2 (by rw [← HNL.out]; have := HL.out; omega) (fun x hx => ⟨rfl, ?_⟩)
          unfold namesL at hx
          obtain ⟨y, hy, rfl⟩ := List.mem_map.1 hx
          exact (HMEM.out y hy).2.1)
        clear hx ho2
        go_wp2_with fail
        go_ret2
        rw [← HD.out.1, ← HD.out.2]
        refine ⟨A, c, by rw [← HNL.out]; rfl, HX1.out.trans HX.out, HRD.out⟩
  · have hu1 : (u != 0) = true := by simp [bne, beq_false_of_ne hu0]
    have HDN := Lib.hid (HBAD.out hu0)
    clear HBAD hu0
    go_wp2_with fail
    go_ret2
    rw [← HD.out.1, ← HD.out.2, HDN.out]
    exact ⟨none, 0, rfl, HX1.out.alloc _, SlR.of_own encStr_ok (base := 0) (e := 9) (World.ownsRow_nil _ _ _ _) (by decide) (fun b hb => by cases hb)⟩

end Go.Proofs.YtgjijcgkmofaaaaGreatDoor

/-
  archive.Get and the document's GotOf: a file of an archive; the law ArchiveGets. Conditions: the argument reads as an array.
-/
namespace Go.Proofs.YtgjijcgkmofaaaaGreatDoor
set_option linter.unusedSimpArgs false
set_option linter.unusedVariables false
open Go.RowKit

def getS (a : List Dev) (name : ByteArray) : ByteArray × Int :=
  if (openS a).2 = 0 then
    if (findS (openS a).1 name).2 = 0 then
      let x := (findS (openS a).1 name).1
      let b := (openS a).1.blocks.getD x.block.toNat ⟨0, 0⟩
      if (streamReadS a b.first b.bytes).2 = 0 then
        if (unpackS (streamReadS a b.first b.bytes).1).2 = 0 then
          if ((unpackS (streamReadS a b.first b.bytes).1).1.size : Int) < x.at_ + x.bytes then (.empty, 9)
          else ((unpackS (streamReadS a b.first b.bytes).1).1.extract x.at_.toNat (x.at_ + x.bytes).toNat, 0)
        else (.empty, (unpackS (streamReadS a b.first b.bytes).1).2)
      else (.empty, (streamReadS a b.first b.bytes).2)
    else (.empty, (findS (openS a).1 name).2)
  else (.empty, (openS a).2)
theorem find_mem {c : Cat} {t : ByteArray} (h : (findS c t).2 = 0) : catFault c = 0 ∧ (findS c t).1 ∈ c.entries := by
  unfold findS at h ⊢
  by_cases hc : catFault c = 0
  · rw [if_pos hc] at h ⊢
    refine ⟨hc, ?_⟩
    cases hf : c.entries.find? (fun x => decide (lst x.name = lst t)) with
    | none => rw [hf] at h; exact absurd h (by decide)
    | some x => exact List.mem_of_find?_eq_some hf
  · rw [if_neg hc] at h; exact absurd h hc
theorem found_ok {c : Cat} {t : ByteArray} (h : (findS c t).2 = 0) : ∃ k : Nat, (findS c t).1.block = (k : Int) ∧ k < c.blocks.length ∧ c.blocks.length ≤ 10 ∧ 0 ≤ (findS c t).1.at_ ∧ (findS c t).1.at_ ≤ 600 ∧ 0 ≤ (findS c t).1.bytes ∧ (findS c t).1.bytes ≤ 200 ∧ ∀ b ∈ c.blocks, 0 ≤ b.bytes ∧ b.bytes ≤ 1200 := by
  obtain ⟨h1, h2⟩ := find_mem h
  obtain ⟨k1, _, k3, k4⟩ := catFault_ok h1
  have h3 := entBad_false (entsF_ok _ _ _ k4 _ h2)
  refine ⟨(findS c t).1.block.toNat, by omega, by omega, k1, h3.2.2.2.1, h3.2.2.2.2.1, h3.2.2.2.2.2.1, h3.2.2.2.2.2.2, blocksF_range _ 8 (by omega) k3⟩

set_option maxRecDepth 100000 in
set_option maxHeartbeats 4000000 in
theorem archGet_any (cs : List Value) (a : List Dev) (nm : ByteArray) (w : World) (h : RArr w cs a) :
    Calls Tryz.prog 25 #[.agg cs.toArray, .string nm] w fun e w' => e = .returned (.tuple #[.string (getS a nm).1, .int .i64 (getS a nm).2]) ∧ Ext w w' := by
  obtain ⟨A, c, rfl⟩ := h.form
  obtain ⟨R, hR⟩ : ∃ R, R = getS a nm := ⟨_, rfl⟩
  rw [← hR]
  unfold getS at hR
  go_enter Tryz.func25, Tryz.ntmps25
  go_wp2_with fail
  refine calls_abs (fun W => Ext w W ∧ Blk_ W w.heap.size 30 #[.slice A a.length c]) ⟨(Ext.refl _).alloc _, Blk_.new _ _ _⟩ ?_
  rintro W ⟨hx, hb⟩
  refine (archOpen_any [.slice A a.length c] a W (h.up hx)).mono ?_
  rintro e w1 ⟨A1, c1, A2, c2, rfl, hx1, hr1⟩
  obtain ⟨d, hd⟩ : ∃ d, d = (openS a).1 := ⟨_, rfl⟩
  obtain ⟨u, hu⟩ : ∃ u, u = (openS a).2 := ⟨_, rfl⟩
  rw [← hd, ← hu] at hR
  rw [← hd] at hr1 ⊢
  rw [← hu]
  have HX1 := Lib.hid (hx.trans hx1)
  have HB1 := Lib.hid (hb.ext hx1)
  have HR1 := Lib.hid hr1
  have HH := Lib.hid h
  clear hd hu hx hx1 hb hr1 h
  by_cases hu0 : u = 0
  · subst hu0
    rw [if_pos rfl] at hR
    go_wp2_with fail
    refine calls_abs (fun W => Ext w1 W ∧ Blk_ W w1.heap.size 88 #[.slice A1 d.blocks.length c1, .slice A2 d.entries.length c2]) ⟨(Ext.refl _).alloc _, Blk_.new _ _ _⟩ ?_
    rintro W ⟨hx, hb⟩
    refine (catFind_any [.slice A1 d.blocks.length c1, .slice A2 d.entries.length c2] d nm W (HR1.out.up hx)).mono ?_
    rintro e w2 ⟨rfl, hx2⟩
    have hfo := fun hv => found_ok (c := d) (t := nm) hv
    obtain ⟨X, hX⟩ : ∃ X, X = (findS d nm).1 := ⟨_, rfl⟩
    obtain ⟨v, hv⟩ : ∃ v, v = (findS d nm).2 := ⟨_, rfl⟩
    rw [← hX, ← hv] at hR hfo ⊢
    unfold entV
    have HX2 := Lib.hid (HX1.out.trans (hx.trans hx2))
    have HB2 := Lib.hid (HB1.out.ext (hx.trans hx2))
    have HC2 := Lib.hid (hb.ext hx2)
    have HE12 := Lib.hid (hx.trans hx2)
    clear hX hv hx hx2 hb HX1 HB1
    have lc := HC2.out.lt
    have la := HB2.out.lt
    by_cases hv0 : v = 0
    · subst hv0
      rw [if_pos rfl] at hR
      obtain ⟨k, hk, hkl, hl10, ha0, ha6, hn0, hn2, hbr⟩ := hfo rfl
      try dsimp only at hR
      rw [hk, Int.toNat_natCast, List.getD_eq_getElem?_getD, List.getElem?_eq_getElem hkl] at hR
      obtain ⟨V1, V2, hvv, hs1, hs2⟩ := HR1.out
      simp only [List.cons.injEq, and_true] at hvv
      obtain ⟨rfl, rfl⟩ := hvv
      have hmem := hs1.mem encBlk_ok w1 _ (List.getElem_mem hkl)
      have hbb := hbr _ (List.getElem_mem hkl)
      obtain ⟨A1', c1', hv1, _, _, p1⟩ := hs1.rowE encBlk_ok
      injection hv1 with e1 e2 e3
      subst e1 e3
      obtain ⟨b1, o1, rfl, g1⟩ := p1 k hkl
      have q0 := HE12.out.cell (g1 k hkl 0 _ rfl)
      have q1 := HE12.out.cell (g1 k hkl 1 _ rfl)
      simp only [Nat.add_zero] at q0
      obtain ⟨B, hB⟩ : ∃ B, B = d.blocks[k] := ⟨_, rfl⟩
      rw [← hB] at q0 q1 hmem hbb
      have hRR : R = if (streamReadS a B.first B.bytes).2 = 0 then (if (unpackS (streamReadS a B.first B.bytes).1).2 = 0 then (if ((unpackS (streamReadS a B.first B.bytes).1).1.size : Int) < X.at_ + X.bytes then (.empty, 9) else ((unpackS (streamReadS a B.first B.bytes).1).1.extract X.at_.toNat (X.at_ + X.bytes).toNat, 0)) else (.empty, (unpackS (streamReadS a B.first B.bytes).1).2)) else (.empty, (streamReadS a B.first B.bytes).2) := by
        rw [hB]; exact hR
      obtain ⟨p, hp⟩ := Int.eq_ofNat_of_zero_le ha0
      obtain ⟨n, hn⟩ := Int.eq_ofNat_of_zero_le hn0
      rw [hp, hn] at hRR
      rw [hk, hp, hn]
      have hp6 : (p : Int) ≤ 600 := by omega
      have hn6 : (n : Int) ≤ 200 := by omega
      have hkI : (k : Int) < (d.blocks.length : Int) := by omega
      have hk10 : (k : Int) < 10 := by omega
      have HRR := Lib.hid hRR
      have HI := Lib.hid (And.intro hmem.2.1 hmem.2.2)
      have hsz := stream_small a B.first B.bytes (by omega)
      have g0 := HC2.out.cell 0
      have f0 := HB2.out.cell 0
      simp at g0 f0
      have lb1 := World.block_lt_of_cell? w2 _ q0
      simp at lb1
      clear hR hRR hB hs1 hs2 p1 g1 hmem hbb hbr hfo hp hn hk ha0 ha6 hn0 hn2
      go_wp2_with fail
      refine calls_abs (fun W => Ext w2 W ∧ Blk_ W w2.heap.size 113 #[.string X.name, .int .i64 (k : Int), .int .i64 (p : Int), .int .i64 (n : Int)]) ⟨((Ext.refl _).alloc _).alloc _, (Blk_.new _ _ _).alloc _⟩ ?_
      rintro W3 ⟨hx, hb⟩
      refine (streamRead_any [.slice A a.length c] a B.first B.bytes W3 (HH.out.up (HX2.out.trans hx)) HI.out.1 HI.out.2).mono ?_
      rintro e w3 ⟨rfl, hx3⟩
      obtain ⟨S, hS⟩ : ∃ S, S = (streamReadS a B.first B.bytes).1 := ⟨_, rfl⟩
      obtain ⟨y, hy⟩ : ∃ y, y = (streamReadS a B.first B.bytes).2 := ⟨_, rfl⟩
      rw [← hS] at hsz
      rw [← hS, ← hy] at HRR ⊢
      have HX3 := Lib.hid (HX2.out.trans (hx.trans hx3))
      have HE3 := Lib.hid (hb.ext hx3)
      clear hx hb hS hy
      clear hx3 g0 f0 q0 q1
      by_cases hy0 : y = 0
      · subst hy0
        have HR3 := HRR.out
        rw [if_pos rfl] at HR3
        have HR4 := Lib.hid HR3
        clear HR3 HRR
        go_wp2_with fail
        refine (unpack_any S _ hsz).mono ?_
        rintro e w4 ⟨rfl, hx4⟩
        obtain ⟨T, hT⟩ : ∃ T, T = (unpackS S).1 := ⟨_, rfl⟩
        obtain ⟨z, hz⟩ : ∃ z, z = (unpackS S).2 := ⟨_, rfl⟩
        rw [← hT, ← hz] at HR4 ⊢
        have HX4 := Lib.hid (HX3.out.trans hx4)
        have HE4 := Lib.hid (HE3.out.ext hx4)
        have m2 := HE4.out.cell 2
        have m3 := HE4.out.cell 3
        simp at m2 m3
        clear hT hz hx4
        by_cases hz0 : z = 0
        · subst hz0
          have HR5 := HR4.out
          rw [if_pos rfl] at HR5
          by_cases hov : (T.size : Int) < (p : Int) + (n : Int)
          · rw [if_pos hov] at HR5
            have HR6 := Lib.hid HR5
            clear HR5 HR4
            go_wp2_with fail
            go_ret2
            rw [HR6.out]
            exact ⟨rfl, HX4.out⟩
          · rw [if_neg hov] at HR5
            have x1 : ((p : Int)).toNat = p := by omega
            have x2 : ((p : Int) + (n : Int)).toNat = p + n := by omega
            have x3 : (p : Int) ≤ (p : Int) + (n : Int) := by omega
            have x4 : (p : Int) + (n : Int) ≤ (T.size : Int) := by omega
            have x5 : (0 : Int) ≤ (p : Int) + (n : Int) := by omega
            have x6 : (0 : Int) ≤ (p : Int) := by omega
            rw [x1, x2] at HR5
            obtain ⟨Z, hZ⟩ : ∃ Z, Z = T.extract p (p + n) := ⟨_, rfl⟩
            rw [← hZ] at HR5
            have HR6 := Lib.hid HR5
            have HZ := Lib.hid hZ
            clear HR5 HR4 hZ
            go_wp2_with fail
            go_ret2
            rw [HR6.out, HZ.out]
            exact ⟨rfl, HX4.out⟩
        · have HR5 := HR4.out
          rw [if_neg hz0] at HR5
          have HR6 := Lib.hid HR5
          have hz1 : (z != 0) = true := by simp [bne, beq_false_of_ne hz0]
          clear HR5 HR4 hz0
          go_wp2_with fail
          go_ret2
          rw [HR6.out]
          exact ⟨rfl, HX4.out⟩
      · have HR3 := HRR.out
        rw [if_neg hy0] at HR3
        have HR4 := Lib.hid HR3
        have hy1 : (y != 0) = true := by simp [bne, beq_false_of_ne hy0]
        clear HR3 HRR hy0
        go_wp2_with fail
        go_ret2
        rw [HR4.out]
        exact ⟨rfl, HX3.out⟩
    · rw [if_neg hv0] at hR
      have HR2 := Lib.hid hR
      have hv1 : (v != 0) = true := by simp [bne, beq_false_of_ne hv0]
      clear hR hv0 hfo
      go_wp2_with fail
      go_ret2
      rw [HR2.out]
      exact ⟨rfl, HX2.out.alloc _⟩
  · rw [if_neg hu0] at hR
    have HR2 := Lib.hid hR
    have hu1 : (u != 0) = true := by simp [bne, beq_false_of_ne hu0]
    clear hR hu0
    go_wp2_with fail
    go_ret2
    rw [HR2.out]
    exact ⟨rfl, HX1.out.alloc _⟩

end Go.Proofs.YtgjijcgkmofaaaaGreatDoor

/-
  Regions of which the last operation is forced to be last, and one of whose other operations may write into a row of the call's own: each operation walked once. Conditions: none.
-/
namespace Go.Proofs.YtgjijcgkmofaaaaGreatDoor
set_option linter.unusedSimpArgs false
set_option linter.unusedVariables false
open Go.RowKit

theorem Ext.grownBy {w w' : World} (h : Ext w w') (row : Option Nat) : w.grownBy w' row := ⟨h.below.os, h.below.tape, h.below.output, h.below.size, fun b hb _ => h.below.block b hb⟩
theorem World.grownBy.trans {a b c : World} {row : Option Nat} (h : a.grownBy b row) (k : b.grownBy c row) : a.grownBy c row :=
  ⟨k.os.trans h.os, k.tape.trans h.tape, k.output.trans h.output, Nat.le_trans h.size k.size, fun g hg hne => (k.block g (Nat.lt_of_lt_of_le hg h.size) hne).trans (h.block g hg hne)⟩
/-- What an operation may do: number k writes into the row, all others only make. -/
def RA (k : Nat) (row : Option Nat) (i : Nat) (w w' : World) : Prop := cond (Nat.beq i k) (w.grownBy w' row) (Ext w w')
theorem RA.grown {k : Nat} {row : Option Nat} {i : Nat} {w w' : World} (h : RA k row i w w') : w.grownBy w' row := by
  unfold RA at h
  cases hb : Nat.beq i k <;> rw [hb] at h
  · exact h.grownBy row
  · exact h
theorem RA.ext {k : Nat} {row : Option Nat} {i : Nat} {w w' : World} (h : RA k row i w w') (hi : i ≠ k) : Ext w w' := by
  unfold RA at h
  cases hb : Nat.beq i k <;> rw [hb] at h
  · exact h
  · exact absurd (Nat.eq_of_beq_eq_true hb) hi
/-- What stands when number i comes up: ahead of number k all has only grown. -/
def RB (k : Nat) (row : Option Nat) (i : Nat) (w w' : World) : Prop := cond (Nat.beq i k) (Ext w w') (w.grownBy w' row)
theorem RB.of {k : Nat} {row : Option Nat} {i : Nat} {w w' : World} (h1 : w.grownBy w' row) (h2 : i = k → Ext w w') : RB k row i w w' := by
  unfold RB
  cases hb : Nat.beq i k
  · exact h1
  · exact h2 (Nat.eq_of_beq_eq_true hb)
section
variable {P : Program} {Q : Exit → Act → World → Prop}
/-- One operation's walk. -/
def StA (k : Nat) (row : Option Nat) (P : Program) (Q : Exit → Act → World → Prop) (L : List Oper) (a0 : Act) (F : (Nat → Value) → Act) (V : List (Value → World → Prop)) (w0 : World) (i : Nat) (x : Oper) : Prop :=
  ∀ vals w, RB k row i w0 w → (∀ j, (waits x).contains j = true → At V j (vals j) w) → (∀ j, (waitsAt L j).contains i = true → vals j = oldAt a0 L j) →
    ∀ K : Act → World → Prop, (∀ a' v w', a' = (F vals).put x.dst v → At V i v w' → RA k row i w w' → K a' w') → x.wp P (F vals) w K Q
theorem wpAny_vals_goA {k0 : Nat} {row : Option Nat} {L : List Oper} {a0 : Act} {w0 : World} {F : (Nat → Value) → Act} (hF : ∀ vals, putAll a0 vals 0 L = F vals) (V : List (Value → World → Prop)) (hok : valsOk L = true)
    (hV : ∀ j p, V[j]? = some p → ∀ v w w', p v w → (if j = k0 then Ext w w' else w.grownBy w' row) → p v w') (hs : Steps (StA k0 row P Q L a0 F V w0) 0 L)
    (done : ∀ vals w, w0.grownBy w row → (∀ i, i < L.length → At V i (vals i) w) → Q .normal (F vals) w) :
    ∀ (fuel : Nat) (listed : Array Bool) (vals : Nat → Value) (w : World), listed.size = L.length → left_ listed ≤ fuel → w0.grownBy w row → (listed.getD k0 true = false → Ext w0 w) →
      (∀ i, i < L.length → listed.getD i true = true → At V i (vals i) w ∧ ∀ j, (waitsAt L i).contains j = true → listed.getD j false = true) →
      (∀ i, listed.getD i true = false → vals i = oldAt a0 L i) →
      wpAny P .any L.toArray Q fuel listed (F vals) w := by
  unfold valsOk at hok
  rw [Bool.and_eq_true, Bool.and_eq_true] at hok
  obtain ⟨⟨hap, hgu⟩, hord⟩ := hok
  have hAt : ∀ i m v w w', i ≠ m → At V i v w → RA k0 row m w w' → At V i v w' := by
    intro i m v w w' him h e
    unfold At at *
    cases hp : V[i]? with
    | none => rw [hp] at h; exact h
    | some p =>
      rw [hp] at h
      refine hV i p hp _ _ _ h ?_
      by_cases hi : i = k0
      · rw [if_pos hi]; exact e.ext (by omega)
      · rw [if_neg hi]; exact e.grown
  have hall : ∀ (listed : Array Bool), listed.size = L.length → Region.ready .any L.toArray listed = [] → ∀ i, i < L.length → listed.getD i true = true := by
    intro listed hsz hr i
    induction i using Nat.strongRecOn with
    | ind i ih =>
      intro hi
      cases hb : listed.getD i true with
      | true => rfl
      | false =>
        have : i ∈ Region.ready .any L.toArray listed := by
          rw [ready_mem]
          refine ⟨by simpa using hi, hb, L[i], by simp [hi], fun e he hbd => ?_⟩
          have hlt : e.on < i := by
            have h1 := List.all_eq_true.1 hord i (List.mem_range.2 hi)
            have h2 := List.all_eq_true.1 h1 e.on (by
              unfold waitsAt
              rw [List.getElem?_eq_getElem hi]
              exact List.contains_iff_mem.1 (mem_waits.2 ⟨e, he, hbd, rfl⟩))
            simpa using h2
          have := ih e.on hlt (by omega)
          have hin : e.on < listed.size := by omega
          simpa [Array.getD_eq_getD_getElem?, hin] using this
        rw [hr] at this
        cases this
  intro fuel
  induction fuel with
  | zero =>
    intro listed vals w hsz hl e hx0 hv ho
    have hno : Region.ready .any L.toArray listed = [] := by
      apply List.eq_nil_iff_forall_not_mem.2
      intro i hi
      obtain ⟨h1, h2, _⟩ := ready_mem.1 hi
      have := left_set (b := listed) (i := i) (by simpa [hsz] using h1) h2
      omega
    exact ⟨hno, done vals w e fun i hi => (hv i hi (hall listed hsz hno i hi)).1⟩
  | succ fuel ih =>
    intro listed vals w hsz hl e hx0 hv ho
    refine ⟨fun hno => done vals w e fun i hi => (hv i hi (hall listed hsz hno i hi)).1, fun i hi => ?_⟩
    obtain ⟨h1, h2, x, hx, h3⟩ := ready_mem.1 hi
    have hil : i < L.length := by simpa using h1
    have hxL : L[i]? = some x := by simpa using hx
    have hg : x.guard = none := by
      have := List.all_eq_true.1 hgu x (List.mem_of_getElem? hxL)
      simpa using this
    unfold wpOp
    rw [hx]
    simp only
    rw [if_pos (by simp [Region.wanted, hg])]
    left
    have hst := hs.at hxL
    rw [Nat.zero_add] at hst
    have hwait : ∀ j, (waits x).contains j = true → listed.getD j false = true := by
      intro j hj
      obtain ⟨ed, he1, he2, rfl⟩ := mem_waits.1 hj
      exact h3 ed he1 he2
    refine hst vals w (RB.of e (fun hik => hx0 (hik ▸ h2))) (fun j hj => ?_) (fun j hj => ?_) _ ?_
    · have hlj := hwait j hj
      have hjs : j < L.length := by
        by_cases h : j < listed.size
        · omega
        · simp [Array.getD_eq_getD_getElem?, h] at hlj
      refine (hv j hjs ?_).1
      have hin : j < listed.size := by omega
      simpa [Array.getD_eq_getD_getElem?, hin] using hlj
    · refine ho j ?_
      cases hb : listed.getD j true with
      | false => rfl
      | true =>
        by_cases hjl : j < L.length
        · have := (hv j hjl hb).2 i hj
          have hin : i < listed.size := by omega
          simp [Array.getD_eq_getD_getElem?, hin] at this h2
          rw [this] at h2
          cases h2
        · unfold waitsAt at hj
          rw [List.getElem?_eq_none (by omega)] at hj
          simp at hj
    · intro a' v w' ha' hv' e'
      subst ha'
      have hput : (F vals).put x.dst v = F (upd vals i v) := by
        rw [← hF, ← hF, ← putAll_upd a0 vals v L 0 i x hap hxL, Nat.zero_add]
      rw [hput]
      refine ih _ _ _ (by simpa using hsz) (by have := left_set (b := listed) (i := i) (by omega) h2; omega) (e.trans e'.grown) (fun hk => by
        by_cases hik : i = k0
        · subst hik
          rw [getD_set_same (by omega)] at hk
          cases hk
        · rw [getD_set_other hik] at hk
          exact (hx0 hk).trans (e'.ext hik)) (fun k hk hkl => ?_) (fun k hk => ?_)
      · by_cases hki : k = i
        · subst hki
          rw [upd_same]
          refine ⟨hv', fun j hj => ?_⟩
          have hj' : (waits x).contains j = true := by
            unfold waitsAt at hj
            rw [hxL] at hj
            exact hj
          have hlj := hwait j hj'
          by_cases hjk : k = j
          · subst hjk; exact getD_set_same (by omega) _
          · rw [getD_set_other hjk]; exact hlj
        · rw [upd_other _ _ hki]
          rw [getD_set_other (Ne.symm hki)] at hkl
          obtain ⟨g1, g2⟩ := hv k hk hkl
          refine ⟨hAt _ i _ _ _ hki g1 e', fun j hj => ?_⟩
          have hlj := g2 j hj
          by_cases hji : i = j
          · subst hji; exact getD_set_same (by omega) _
          · rw [getD_set_other hji]; exact hlj
      · by_cases hki : k = i
        · subst hki
          rw [getD_set_same (by omega)] at hk
          cases hk
        · rw [upd_other _ _ hki]
          rw [getD_set_other (Ne.symm hki)] at hk
          exact ho k hk

/-- THE REGION: each operation is walked once, the last one last; number k may write into the row. -/
theorem wp_region_valsA (k : Nat) (row : Option Nat) {id n : Nat} {L r : List Oper} {o : Oper} {a0 : Act} {w : World} {F : (Nat → Value) → Act} (hF : ∀ vals, putAll a0 vals 0 L.dropLast = F vals) (V : List (Value → World → Prop)) (hm : P.follows .mixedOrders = true)
    (hL : L.reverse = o :: r) (hf : lastForced L.dropLast o = true) (hn : L.length = n + 1) (hok : valsOk L.dropLast = true)
    (hV : ∀ j p, V[j]? = some p → ∀ v w w', p v w → (if j = k then Ext w w' else w.grownBy w' row) → p v w') (hs : Steps (StA k row P (LastQ P o Q) L.dropLast a0 F V w.drew) 0 L.dropLast)
    (done : ∀ vals w', w.drew.grownBy w' row → (∀ i, i < L.dropLast.length → At V i (vals i) w') → ∀ K : Act → World → Prop, (∀ a' w'', Q .normal a' w'' → K a' w'') → o.wp P (F vals) w' K Q) : (Code.region id L.toArray true).wp P Q a0 w := by
  have hn2 : L.dropLast.length = n := by rw [List.length_dropLast, hn]; rfl
  refine wp_region_any hm (wpAny_dropLast (getLast_of_reverse hL) hf hn ?_)
  have h0 : F (oldAt a0 L.dropLast) = a0 := by
    rw [← hF]
    refine putAll_old _ _ _ _ (fun i x d h1 h2 => ?_)
    rw [Nat.zero_add]
    unfold oldAt
    rw [h1]
    simp only
    rw [h2]
  have := wpAny_vals_goA (P := P) (Q := LastQ P o Q) hF V hok hV hs (fun vals w' hr ha => done vals w' hr ha _ fun _ _ h => h) n (Array.replicate n false) (oldAt a0 L.dropLast) w.drew (by simp [hn2]) (by simp [left_]) (World.grownBy.refl _ _) (fun _ => Ext.refl _)
    (fun i hi h => by
      exfalso
      rw [hn2] at hi
      simp [Array.getD_eq_getD_getElem?, Array.getElem?_replicate, hi] at h)
    (fun i _ => rfl)
  rw [h0] at this
  exact this
end
end Go.Proofs.YtgjijcgkmofaaaaGreatDoor

/-
  The catalog that is made of raw numbers may be; what its bytes are read as. In plain Lean. Conditions: at most nine of it.
-/
namespace Go.Proofs.YtgjijcgkmofaaaaGreatDoor
set_option linter.unusedSimpArgs false
set_option linter.unusedVariables false
open Go.RowKit

def r40 : Raw4 := ⟨0, 0, 0, 0⟩
def cBytes (l : List Raw4) (j : Nat) : Int := pick (l.getD j r40).a 140
def cAt (l : List Raw4) : Nat → Int
  | 0 => 8
  | j + 1 => cAt l j + secs (cBytes l j)
def cBlk (l : List Raw4) (j : Nat) : Blk := ⟨cAt l j, cBytes l j⟩
def cName (j : Nat) : ByteArray := bs [110, byte (97 + (j : Int))]
def cEnt (l : List Raw4) (j : Nat) : Ent := ⟨cName j, pick (l.getD j r40).b ((j : Int) + 1), pick (l.getD j r40).c 600, pick (l.getD j r40).kind 201⟩
def cCat (l : List Raw4) (k : Nat) : Cat := ⟨(List.range k).map (cBlk l), (List.range k).map (cEnt l)⟩
theorem cBytes_range (l : List Raw4) (j : Nat) : 0 ≤ cBytes l j ∧ cBytes l j ≤ 139 := by
  have := pick_range (l.getD j r40).a 140 (by decide)
  unfold cBytes; omega
theorem cAt_range (l : List Raw4) : ∀ j : Nat, 8 ≤ cAt l j ∧ cAt l j ≤ 8 + 6 * (j : Int)
  | 0 => by unfold cAt; omega
  | j + 1 => by
    have h := cAt_range l j
    have hb := cBytes_range l j
    unfold cAt secs
    omega
theorem cNames_may : ∀ j : Nat, j < 9 → nameMay (cName j) = true := by decide
theorem cNames_less : ∀ j : Nat, j < 9 → Op.bytesLess [110, byte (97 + (j : Int))] [110, byte (97 + ((j + 1 : Nat) : Int))] = true := by decide
theorem cNames_order (j : Nat) (hj : j < 9) : orderBad (some (cName j)) (cName (j + 1)) = false := by
  unfold orderBad
  simp only
  rw [toList_lst, toList_lst]
  unfold cName
  rw [lst_bs, lst_bs, cNames_less j hj]
  rfl
theorem cBlks_ok (l : List Raw4) : ∀ m i : Nat, i + m ≤ 9 → blocksF (cAt l i) ((List.range' i m).map (cBlk l)) = 0
  | 0, _, _ => rfl
  | m + 1, i, h => by
    rw [List.range'_succ, List.map_cons]
    have hb := cBytes_range l i
    have ha := cAt_range l (i + 1)
    rw [blocks_go]
    · exact cBlks_ok l m (i + 1) (by omega)
    · unfold blockBad
      have e1 : (cBlk l i).first = cAt l i := rfl
      have e2 : (cBlk l i).bytes = cBytes l i := rfl
      have e3 : cAt l (i + 1) = cAt l i + secs (cBytes l i) := rfl
      rw [e1, e2]
      simp only [inB, Bool.or_eq_false_iff, Bool.not_eq_false', Bool.and_eq_true, decide_eq_false_iff_not, decide_eq_true_eq, ne_eq, not_true_eq_false, not_false_eq_true, true_and]
      omega
theorem cEnt_ok (l : List Raw4) (k i : Nat) (h : i < k) (hk : k ≤ 9) : entBad k (cEnt l i) = false := by
  have h1 := pick_range (l.getD i r40).b ((i : Int) + 1) (by omega)
  have h2 := pick_range (l.getD i r40).c 600 (by decide)
  have h3 := pick_range (l.getD i r40).kind 201 (by decide)
  unfold entBad cEnt
  simp only [inB, cNames_may i (by omega), Bool.not_true, Bool.false_or, Bool.or_eq_false_iff, Bool.not_eq_false', Bool.and_eq_true, decide_eq_true_eq]
  omega
theorem cEnts_ok (l : List Raw4) (k : Nat) (hk : k ≤ 9) : ∀ m i : Nat, i + m ≤ k → (p : Option ByteArray) → (p = none ∨ ∃ j, j + 1 = i ∧ p = some (cName j)) → entsF k p ((List.range' i m).map (cEnt l)) = 0
  | 0, _, _, _, _ => rfl
  | m + 1, i, h, p, hp => by
    rw [List.range'_succ, List.map_cons]
    rw [ents_go (cEnt_ok l k i (by omega) hk)]
    · exact cEnts_ok l k hk m (i + 1) (by omega) _ (.inr ⟨i, rfl, rfl⟩)
    · rcases hp with rfl | ⟨j, rfl, rfl⟩
      · rfl
      · exact cNames_order j (by omega)
theorem cCat_ok (l : List Raw4) (k : Nat) (hk : k ≤ 9) : catFault (cCat l k) = 0 := by
  have h1 : (cCat l k).blocks.length = k := by simp [cCat]
  have h2 : (cCat l k).entries.length = k := by simp [cCat]
  have hb : blocksF 8 (cCat l k).blocks = 0 := by
    show blocksF 8 ((List.range k).map (cBlk l)) = 0
    rw [List.range_eq_range']
    exact cBlks_ok l k 0 (by omega)
  rw [fault_ents (by omega) hb, h1]
  show entsF k none ((List.range k).map (cEnt l)) = 0
  rw [List.range_eq_range']
  exact cEnts_ok l k hk k 0 (by omega) none (.inl rfl)
theorem cCat_succ (l : List Raw4) (k : Nat) : cCat l (k + 1) = ⟨(cCat l k).blocks ++ [cBlk l k], (cCat l k).entries ++ [cEnt l k]⟩ := by
  unfold cCat
  rw [List.range_succ, List.map_append, List.map_append]
  rfl
theorem flat_bound {α : Type} (f : α → List UInt8) (b : Nat) : ∀ l : List α, (∀ x ∈ l, (f x).length ≤ b) → (l.flatMap f).length ≤ b * l.length
  | [], _ => Nat.zero_le _
  | x :: l, h => by
    rw [List.flatMap_cons, List.length_append, List.length_cons, Nat.mul_succ]
    have h1 := h x (List.mem_cons_self ..)
    have h2 := flat_bound f b l (fun y hy => h y (List.mem_cons_of_mem _ hy))
    omega
theorem catBytes_len {c : Cat} (h : catFault c = 0) : 2 ≤ (catBytes c).length ∧ (catBytes c).length ≤ 200 := by
  obtain ⟨h1, h2, h3, h4⟩ := catFault_ok h
  have he := entsF_ok _ _ _ h4
  have b1 := flat_bound (fun b : Blk => twoB b.bytes) 2 c.blocks (fun x _ => by simp [twoB])
  have b2 := flat_bound entBytes 13 c.entries (fun x hx => ent_len (he x hx))
  unfold catBytes
  simp only [List.length_cons, List.length_append]
  omega
/-- What is read of the bytes of a catalog that may be. -/
theorem dec_zeros {c : Cat} (h : catFault c = 0) (n : Nat) : decCatS ((encCatS c).1 ++ bs (List.replicate n 0)) = (c, 0) := by
  rw [enc_good h]
  unfold decCatS
  rw [lst_append, lst_bs, lst_bs, cat_back c h, if_pos (by rw [List.all_replicate]; simp)]
theorem dec_more {c : Cat} (h : catFault c = 0) : decCatS ((encCatS c).1 ++ bs [0, 120]) = (noCat, 4) := by
  rw [enc_good h]
  unfold decCatS
  rw [lst_append, lst_bs, lst_bs, cat_back c h]
  rfl
theorem dec_short {c : Cat} (h : catFault c = 0) (m : Nat) (hm : m < (encCatS c).1.size) : decCatS ((encCatS c).1.extract 0 m) = (noCat, 5) := by
  rw [enc_good h] at hm ⊢
  unfold decCatS
  have hl : lst ((bs (catBytes c)).extract 0 m) = (catBytes c).take m := by
    rw [lst_extract]
    simp [sub_, lst_bs]
  rw [hl]
  rw [size_bs] at hm
  exact cat_cut c h _ (List.take_prefix _ _) (by rw [List.length_take]; omega)
theorem nextAt_ge : ∀ (l : List Blk) (p : Int), (∀ b ∈ l, 0 ≤ b.bytes) → p ≤ nextAt p l
  | [], p, _ => Int.le_refl p
  | b :: l, p, h => by
    have h0 := h b (List.mem_cons_self ..)
    have := nextAt_ge l (p + secs b.bytes) (fun x hx => h x (List.mem_cons_of_mem _ hx))
    show p ≤ nextAt (p + secs b.bytes) l
    unfold secs at *
    omega
theorem next_ge {c : Cat} (h : catFault c = 0) : (nextS c).2 = 0 ∧ 8 ≤ (nextS c).1 := by
  obtain ⟨_, _, h3, _⟩ := catFault_ok h
  unfold nextS
  rw [if_pos h]
  exact ⟨rfl, nextAt_ge _ _ (fun b hb => (blocksF_range _ _ (by decide) h3 b hb).1)⟩
end Go.Proofs.YtgjijcgkmofaaaaGreatDoor

/-
  The laws' arguments, opened by their types: lists of raw numbers. Conditions: none.
-/
namespace Go.Proofs.YtgjijcgkmofaaaaGreatDoor
set_option linter.unusedSimpArgs false
set_option linter.unusedVariables false
open Go.RowKit Go.ChangeShapes Go.WideShapes Go.ChangeAt Go.Deep
section
variable {H : Type} {enc : TypeId × Value → H} {w : World} {spare : Nat → Bool}

theorem opensRaw : Opens H enc Tryz.prog w spare 82 RRaw := by
  intro fuel cs x h hz
  obtain ⟨hlen, hf⟩ := opens_fields Tryz.underlying82 h hz
  rw [show Tryz.prog.cellsOf 82 = 4 by kernel_rfl] at hlen
  obtain ⟨n0, y0, t0', z0'⟩ := hf 0 _ rfl
  have t0 : DataW.trod enc Tryz.prog w 0 spare true n0 3 ((cs.drop 0).take (Tryz.prog.cellsOf 3)) = some y0 := t0'
  have z0 : ∀ k ∈ y0.1.weights Tryz.prog 3, k ≤ reachBytes := z0'
  clear t0' z0'
  rw [show Tryz.prog.cellsOf 3 = 1 by kernel_rfl] at t0
  obtain ⟨n1, y1, t1', z1'⟩ := hf 1 _ rfl
  have t1 : DataW.trod enc Tryz.prog w 0 spare true n1 3 ((cs.drop 1).take (Tryz.prog.cellsOf 3)) = some y1 := t1'
  have z1 : ∀ k ∈ y1.1.weights Tryz.prog 3, k ≤ reachBytes := z1'
  clear t1' z1'
  rw [show Tryz.prog.cellsOf 3 = 1 by kernel_rfl] at t1
  obtain ⟨n2, y2, t2', z2'⟩ := hf 2 _ rfl
  have t2 : DataW.trod enc Tryz.prog w 0 spare true n2 3 ((cs.drop 2).take (Tryz.prog.cellsOf 3)) = some y2 := t2'
  have z2 : ∀ k ∈ y2.1.weights Tryz.prog 3, k ≤ reachBytes := z2'
  clear t2' z2'
  rw [show Tryz.prog.cellsOf 3 = 1 by kernel_rfl] at t2
  obtain ⟨n3, y3, t3', z3'⟩ := hf 3 _ rfl
  have t3 : DataW.trod enc Tryz.prog w 0 spare true n3 3 ((cs.drop 3).take (Tryz.prog.cellsOf 3)) = some y3 := t3'
  have z3 : ∀ k ∈ y3.1.weights Tryz.prog 3, k ≤ reachBytes := z3'
  clear t3' z3'
  rw [show Tryz.prog.cellsOf 3 = 1 by kernel_rfl] at t3
  obtain ⟨u0, u1, u2, u3, rfl⟩ := len4 hlen
  clear hf h hz
  obtain ⟨a0, r0⟩ := (opens_int Tryz.underlying3) n0 _ y0 t0 z0
  obtain ⟨a1, r1⟩ := (opens_int Tryz.underlying3) n1 _ y1 t1 z1
  obtain ⟨a2, r2⟩ := (opens_int Tryz.underlying3) n2 _ y2 t2 z2
  obtain ⟨a3, r3⟩ := (opens_int Tryz.underlying3) n3 _ y3 t3 z3
  obtain ⟨e0, r0⟩ := r0
  obtain ⟨e1, r1⟩ := r1
  obtain ⟨e2, r2⟩ := r2
  obtain ⟨e3, r3⟩ := r3
  refine ⟨⟨a0, a1, a2, a3⟩, ?_, r0, r1, r2, r3⟩
  have e0' : u0 = .int .i64 a0 := by simpa using e0
  have e1' : u1 = .int .i64 a1 := by simpa using e1
  have e2' : u2 = .int .i64 a2 := by simpa using e2
  have e3' : u3 = .int .i64 a3 := by simpa using e3
  rw [e0', e1', e2', e3']

theorem opensRaws : Opens H enc Tryz.prog w spare 22 (fun w cs (l : List Raw4) => ∃ v, cs = [v] ∧ SlR 4 32 RRaw w v l) :=
  opens_slice Tryz.underlying22 (by kernel_rfl) (by decide) (by kernel_rfl) opensRaw

end
end Go.Proofs.YtgjijcgkmofaaaaGreatDoor
