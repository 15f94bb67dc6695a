/-
  The laws' arguments, opened by their types: a device, an array, a catalog, lists of files. Conditions: none.
-/
import Derived.Test.YtgjijcgkmofaaaaGreatDoorK6
import Derived.Shelf.Strings.Repeat
import Derived.Test.YtgjijcgkmofaaaaGreatDoorProg
namespace Go.Proofs.YtgjijcgkmofaaaaGreatDoor
set_option linter.unusedSimpArgs false
set_option linter.unusedVariables false
open Go.RowKit Go.ChangeShapes Go.WideShapes Go.ChangeAt Go.Deep
theorem len1 {α : Type} {l : List α} (h : l.length = 1) : ∃ a, l = [a] := by
  match l, h with
  | [a], _ => exact ⟨a, rfl⟩
theorem len2 {α : Type} {l : List α} (h : l.length = 2) : ∃ a b, l = [a, b] := by
  match l, h with
  | [a, b], _ => exact ⟨a, b, rfl⟩
theorem len4 {α : Type} {l : List α} (h : l.length = 4) : ∃ a b c d, l = [a, b, c, d] := by
  match l, h with
  | [a, b, c, d], _ => exact ⟨a, b, c, d, rfl⟩
section
variable {H : Type} {enc : TypeId × Value → H} {w : World} {spare : Nat → Bool}

theorem opensStrs : Opens H enc Tryz.prog w spare 43 (fun w cs (l : List ByteArray) => ∃ v, cs = [v] ∧ SlR 1 16 RStr w v l) :=
  opens_slice Tryz.underlying43 (by kernel_rfl) (by decide) (by kernel_rfl) (opens_string Tryz.underlying9)

theorem opensBools : Opens H enc Tryz.prog w spare 66 (fun w cs (l : List Bool) => ∃ v, cs = [v] ∧ SlR 1 1 RBool w v l) :=
  opens_slice Tryz.underlying66 (by kernel_rfl) (by decide) (by kernel_rfl) (opens_bool Tryz.underlying4)

theorem opensDev : Opens H enc Tryz.prog w spare 68 RDev := by
  intro fuel cs x h hz
  obtain ⟨hlen, hf⟩ := opens_fields Tryz.underlying68 h hz
  rw [show Tryz.prog.cellsOf 68 = 2 by kernel_rfl] at hlen
  obtain ⟨n0, y0, t0', z0'⟩ := hf 0 _ rfl
  have t0 : DataW.trod enc Tryz.prog w 0 spare true n0 43 ((cs.drop 0).take (Tryz.prog.cellsOf 43)) = some y0 := t0'
  have z0 : ∀ k ∈ y0.1.weights Tryz.prog 43, k ≤ reachBytes := z0'
  clear t0' z0'
  rw [show Tryz.prog.cellsOf 43 = 1 by kernel_rfl] at t0
  obtain ⟨n1, y1, t1', z1'⟩ := hf 1 _ rfl
  have t1 : DataW.trod enc Tryz.prog w 0 spare true n1 66 ((cs.drop 1).take (Tryz.prog.cellsOf 66)) = some y1 := t1'
  have z1 : ∀ k ∈ y1.1.weights Tryz.prog 66, k ≤ reachBytes := z1'
  clear t1' z1'
  rw [show Tryz.prog.cellsOf 66 = 1 by kernel_rfl] at t1
  obtain ⟨u0, u1, rfl⟩ := len2 hlen
  clear hf h hz
  obtain ⟨a0, r0⟩ := opensStrs n0 _ y0 t0 z0
  obtain ⟨a1, r1⟩ := opensBools n1 _ y1 t1 z1
  obtain ⟨w0, e0, r0⟩ := r0
  obtain ⟨w1, e1, r1⟩ := r1
  refine ⟨⟨a0, a1⟩, w0, w1, ?_, r0, r1⟩
  have e0' : u0 = w0 := by simpa using e0
  have e1' : u1 = w1 := by simpa using e1
  rw [e0', e1']

theorem opensDevs : Opens H enc Tryz.prog w spare 28 (fun w cs (l : List Dev) => ∃ v, cs = [v] ∧ SlR 2 48 RDev w v l) :=
  opens_slice Tryz.underlying28 (by kernel_rfl) (by decide) (by kernel_rfl) opensDev

theorem opensArr : Opens H enc Tryz.prog w spare 30 RArr := by
  intro fuel cs x h hz
  obtain ⟨hlen, hf⟩ := opens_fields Tryz.underlying30 h hz
  rw [show Tryz.prog.cellsOf 30 = 1 by kernel_rfl] at hlen
  obtain ⟨n0, y0, t0', z0'⟩ := hf 0 _ rfl
  have t0 : DataW.trod enc Tryz.prog w 0 spare true n0 28 ((cs.drop 0).take (Tryz.prog.cellsOf 28)) = some y0 := t0'
  have z0 : ∀ k ∈ y0.1.weights Tryz.prog 28, k ≤ reachBytes := z0'
  clear t0' z0'
  rw [show Tryz.prog.cellsOf 28 = 1 by kernel_rfl] at t0
  obtain ⟨u0, rfl⟩ := len1 hlen
  clear hf h hz
  obtain ⟨a0, r0⟩ := opensDevs n0 _ y0 t0 z0
  obtain ⟨w0, e0, r0⟩ := r0
  exact ⟨a0, w0, by simpa using e0, r0⟩

theorem opensBlk : Opens H enc Tryz.prog w spare 108 RBlk := by
  intro fuel cs x h hz
  obtain ⟨hlen, hf⟩ := opens_fields Tryz.underlying108 h hz
  rw [show Tryz.prog.cellsOf 108 = 2 by kernel_rfl] at hlen
  obtain ⟨n0, y0, t0', z0'⟩ := hf 0 _ rfl
  have t0 : DataW.trod enc Tryz.prog w 0 spare true n0 3 ((cs.drop 0).take (Tryz.prog.cellsOf 3)) = some y0 := t0'
  have z0 : ∀ k ∈ y0.1.weights Tryz.prog 3, k ≤ reachBytes := z0'
  clear t0' z0'
  rw [show Tryz.prog.cellsOf 3 = 1 by kernel_rfl] at t0
  obtain ⟨n1, y1, t1', z1'⟩ := hf 1 _ rfl
  have t1 : DataW.trod enc Tryz.prog w 0 spare true n1 3 ((cs.drop 1).take (Tryz.prog.cellsOf 3)) = some y1 := t1'
  have z1 : ∀ k ∈ y1.1.weights Tryz.prog 3, k ≤ reachBytes := z1'
  clear t1' z1'
  rw [show Tryz.prog.cellsOf 3 = 1 by kernel_rfl] at t1
  obtain ⟨u0, u1, rfl⟩ := len2 hlen
  clear hf h hz
  obtain ⟨a0, r0⟩ := (opens_int Tryz.underlying3) n0 _ y0 t0 z0
  obtain ⟨a1, r1⟩ := (opens_int Tryz.underlying3) n1 _ y1 t1 z1
  obtain ⟨e0, r0⟩ := r0
  obtain ⟨e1, r1⟩ := r1
  refine ⟨⟨a0, a1⟩, ?_, r0, r1⟩
  have e0' : u0 = .int .i64 a0 := by simpa using e0
  have e1' : u1 = .int .i64 a1 := by simpa using e1
  rw [e0', e1']

theorem opensEnt : Opens H enc Tryz.prog w spare 113 REnt := by
  intro fuel cs x h hz
  obtain ⟨hlen, hf⟩ := opens_fields Tryz.underlying113 h hz
  rw [show Tryz.prog.cellsOf 113 = 4 by kernel_rfl] at hlen
  obtain ⟨n0, y0, t0', z0'⟩ := hf 0 _ rfl
  have t0 : DataW.trod enc Tryz.prog w 0 spare true n0 9 ((cs.drop 0).take (Tryz.prog.cellsOf 9)) = some y0 := t0'
  have z0 : ∀ k ∈ y0.1.weights Tryz.prog 9, k ≤ reachBytes := z0'
  clear t0' z0'
  rw [show Tryz.prog.cellsOf 9 = 1 by kernel_rfl] at t0
  obtain ⟨n1, y1, t1', z1'⟩ := hf 1 _ rfl
  have t1 : DataW.trod enc Tryz.prog w 0 spare true n1 3 ((cs.drop 1).take (Tryz.prog.cellsOf 3)) = some y1 := t1'
  have z1 : ∀ k ∈ y1.1.weights Tryz.prog 3, k ≤ reachBytes := z1'
  clear t1' z1'
  rw [show Tryz.prog.cellsOf 3 = 1 by kernel_rfl] at t1
  obtain ⟨n2, y2, t2', z2'⟩ := hf 2 _ rfl
  have t2 : DataW.trod enc Tryz.prog w 0 spare true n2 3 ((cs.drop 2).take (Tryz.prog.cellsOf 3)) = some y2 := t2'
  have z2 : ∀ k ∈ y2.1.weights Tryz.prog 3, k ≤ reachBytes := z2'
  clear t2' z2'
  rw [show Tryz.prog.cellsOf 3 = 1 by kernel_rfl] at t2
  obtain ⟨n3, y3, t3', z3'⟩ := hf 3 _ rfl
  have t3 : DataW.trod enc Tryz.prog w 0 spare true n3 3 ((cs.drop 3).take (Tryz.prog.cellsOf 3)) = some y3 := t3'
  have z3 : ∀ k ∈ y3.1.weights Tryz.prog 3, k ≤ reachBytes := z3'
  clear t3' z3'
  rw [show Tryz.prog.cellsOf 3 = 1 by kernel_rfl] at t3
  obtain ⟨u0, u1, u2, u3, rfl⟩ := len4 hlen
  clear hf h hz
  obtain ⟨a0, r0⟩ := (opens_string Tryz.underlying9) n0 _ y0 t0 z0
  obtain ⟨a1, r1⟩ := (opens_int Tryz.underlying3) n1 _ y1 t1 z1
  obtain ⟨a2, r2⟩ := (opens_int Tryz.underlying3) n2 _ y2 t2 z2
  obtain ⟨a3, r3⟩ := (opens_int Tryz.underlying3) n3 _ y3 t3 z3
  obtain ⟨e0, r0⟩ := r0
  obtain ⟨e1, r1⟩ := r1
  obtain ⟨e2, r2⟩ := r2
  obtain ⟨e3, r3⟩ := r3
  refine ⟨⟨a0, a1, a2, a3⟩, ?_, r0, r1, r2, r3⟩
  have e0' : u0 = .string a0 := by simpa using e0
  have e1' : u1 = .int .i64 a1 := by simpa using e1
  have e2' : u2 = .int .i64 a2 := by simpa using e2
  have e3' : u3 = .int .i64 a3 := by simpa using e3
  rw [e0', e1', e2', e3']

theorem opensBlks : Opens H enc Tryz.prog w spare 85 (fun w cs (l : List Blk) => ∃ v, cs = [v] ∧ SlR 2 16 RBlk w v l) :=
  opens_slice Tryz.underlying85 (by kernel_rfl) (by decide) (by kernel_rfl) opensBlk

theorem opensEnts : Opens H enc Tryz.prog w spare 86 (fun w cs (l : List Ent) => ∃ v, cs = [v] ∧ SlR 4 40 REnt w v l) :=
  opens_slice Tryz.underlying86 (by kernel_rfl) (by decide) (by kernel_rfl) opensEnt

theorem opensCat : Opens H enc Tryz.prog w spare 88 RCat := by
  intro fuel cs x h hz
  obtain ⟨hlen, hf⟩ := opens_fields Tryz.underlying88 h hz
  rw [show Tryz.prog.cellsOf 88 = 2 by kernel_rfl] at hlen
  obtain ⟨n0, y0, t0', z0'⟩ := hf 0 _ rfl
  have t0 : DataW.trod enc Tryz.prog w 0 spare true n0 85 ((cs.drop 0).take (Tryz.prog.cellsOf 85)) = some y0 := t0'
  have z0 : ∀ k ∈ y0.1.weights Tryz.prog 85, k ≤ reachBytes := z0'
  clear t0' z0'
  rw [show Tryz.prog.cellsOf 85 = 1 by kernel_rfl] at t0
  obtain ⟨n1, y1, t1', z1'⟩ := hf 1 _ rfl
  have t1 : DataW.trod enc Tryz.prog w 0 spare true n1 86 ((cs.drop 1).take (Tryz.prog.cellsOf 86)) = some y1 := t1'
  have z1 : ∀ k ∈ y1.1.weights Tryz.prog 86, k ≤ reachBytes := z1'
  clear t1' z1'
  rw [show Tryz.prog.cellsOf 86 = 1 by kernel_rfl] at t1
  obtain ⟨u0, u1, rfl⟩ := len2 hlen
  clear hf h hz
  obtain ⟨a0, r0⟩ := opensBlks n0 _ y0 t0 z0
  obtain ⟨a1, r1⟩ := opensEnts n1 _ y1 t1 z1
  obtain ⟨w0, e0, r0⟩ := r0
  obtain ⟨w1, e1, r1⟩ := r1
  refine ⟨⟨a0, a1⟩, w0, w1, ?_, r0, r1⟩
  have e0' : u0 = w0 := by simpa using e0
  have e1' : u1 = w1 := by simpa using e1
  rw [e0', e1']

theorem opensFil : Opens H enc Tryz.prog w spare 57 RFil := by
  intro fuel cs x h hz
  obtain ⟨hlen, hf⟩ := opens_fields Tryz.underlying57 h hz
  rw [show Tryz.prog.cellsOf 57 = 2 by kernel_rfl] at hlen
  obtain ⟨n0, y0, t0', z0'⟩ := hf 0 _ rfl
  have t0 : DataW.trod enc Tryz.prog w 0 spare true n0 9 ((cs.drop 0).take (Tryz.prog.cellsOf 9)) = some y0 := t0'
  have z0 : ∀ k ∈ y0.1.weights Tryz.prog 9, k ≤ reachBytes := z0'
  clear t0' z0'
  rw [show Tryz.prog.cellsOf 9 = 1 by kernel_rfl] at t0
  obtain ⟨n1, y1, t1', z1'⟩ := hf 1 _ rfl
  have t1 : DataW.trod enc Tryz.prog w 0 spare true n1 9 ((cs.drop 1).take (Tryz.prog.cellsOf 9)) = some y1 := t1'
  have z1 : ∀ k ∈ y1.1.weights Tryz.prog 9, k ≤ reachBytes := z1'
  clear t1' z1'
  rw [show Tryz.prog.cellsOf 9 = 1 by kernel_rfl] at t1
  obtain ⟨u0, u1, rfl⟩ := len2 hlen
  clear hf h hz
  obtain ⟨a0, r0⟩ := (opens_string Tryz.underlying9) n0 _ y0 t0 z0
  obtain ⟨a1, r1⟩ := (opens_string Tryz.underlying9) n1 _ y1 t1 z1
  obtain ⟨e0, r0⟩ := r0
  obtain ⟨e1, r1⟩ := r1
  refine ⟨⟨a0, a1⟩, ?_, r0, r1⟩
  have e0' : u0 = .string a0 := by simpa using e0
  have e1' : u1 = .string a1 := by simpa using e1
  rw [e0', e1']

theorem opensFiles : Opens H enc Tryz.prog w spare 24 (fun w cs (l : List Fil) => ∃ v, cs = [v] ∧ SlR 2 32 RFil w v l) :=
  opens_slice Tryz.underlying24 (by kernel_rfl) (by decide) (by kernel_rfl) opensFil

theorem opensCur : Opens H enc Tryz.prog w spare 121 RCur := by
  intro fuel cs x h hz
  obtain ⟨hlen, hf⟩ := opens_fields Tryz.underlying121 h hz
  rw [show Tryz.prog.cellsOf 121 = 2 by kernel_rfl] at hlen
  obtain ⟨n0, y0, t0', z0'⟩ := hf 0 _ rfl
  have t0 : DataW.trod enc Tryz.prog w 0 spare true n0 3 ((cs.drop 0).take (Tryz.prog.cellsOf 3)) = some y0 := t0'
  have z0 : ∀ k ∈ y0.1.weights Tryz.prog 3, k ≤ reachBytes := z0'
  clear t0' z0'
  rw [show Tryz.prog.cellsOf 3 = 1 by kernel_rfl] at t0
  obtain ⟨n1, y1, t1', z1'⟩ := hf 1 _ rfl
  have t1 : DataW.trod enc Tryz.prog w 0 spare true n1 3 ((cs.drop 1).take (Tryz.prog.cellsOf 3)) = some y1 := t1'
  have z1 : ∀ k ∈ y1.1.weights Tryz.prog 3, k ≤ reachBytes := z1'
  clear t1' z1'
  rw [show Tryz.prog.cellsOf 3 = 1 by kernel_rfl] at t1
  obtain ⟨u0, u1, rfl⟩ := len2 hlen
  clear hf h hz
  obtain ⟨a0, r0⟩ := (opens_int Tryz.underlying3) n0 _ y0 t0 z0
  obtain ⟨a1, r1⟩ := (opens_int Tryz.underlying3) n1 _ y1 t1 z1
  obtain ⟨e0, r0⟩ := r0
  obtain ⟨e1, r1⟩ := r1
  refine ⟨⟨a0, a1⟩, ?_, r0, r1⟩
  have e0' : u0 = .int .i64 a0 := by simpa using e0
  have e1' : u1 = .int .i64 a1 := by simpa using e1
  rw [e0', e1']

end
end Go.Proofs.YtgjijcgkmofaaaaGreatDoor

/-
  array.Copy: all devices in new memory. sameArray answers true at what reads alike; the law ArrayCopies. Conditions: the arguments read as arrays.
-/
namespace Go.Proofs.YtgjijcgkmofaaaaGreatDoor
set_option linter.unusedSimpArgs false
set_option linter.unusedVariables false
open Go.RowKit

theorem info_dev : (Tryz.prog.info? 68).map (fun i => (i.zero, i.size, i.bytes)) = some (some (.agg #[.slice none 0 0, .slice none 0 0]), 2, 48) := by kernel_rfl
set_option maxRecDepth 100000 in
set_option maxHeartbeats 1000000 in
theorem arrCopy_any (cs : List Value) (a : List Dev) (w : World) (h : RArr w cs a) :
    Calls Tryz.prog 63 #[.agg cs.toArray] w fun e w' => ∃ A c, e = .returned (.agg #[.slice A a.length c]) ∧ Ext w w' ∧ OArr 68 w' w.heap.size (.slice A a.length c) a := by
  obtain ⟨v, rfl, h1⟩ := h
  obtain ⟨A0, c0, rfl, hb0, hc0, hr⟩ := h1.rowR
  clear h1
  go_enter Tryz.func63, Tryz.ntmps63
  go_wp2
  refine wp_abs (fun W => Ext w W ∧ Blk_ W w.heap.size 30 #[.slice A0 a.length c0] ∧ Blk_ W (w.heap.size + 1) 30 #[.slice none 0 0] ∧ Blk_ W (w.heap.size + 1 + 1) 30 #[.slice none 0 0]) ⟨(((Ext.refl _).alloc _).alloc _).alloc _, ((Blk_.new _ _ _).alloc _).alloc _, (Blk_.new1 _ _ _ _).alloc _, Blk_.new2 _ _ _ _ _⟩ ?_
  rintro W ⟨hx, hb1, hb2, hb3⟩
  go_loopw [10] (fun i wr => ∃ (k : Nat) (A : Option Addr) (c : Nat), i = .int .i64 k ∧ k ≤ a.length ∧ Ext w wr ∧ Blk_ wr w.heap.size 30 #[.slice A0 a.length c0] ∧ Blk_ wr (w.heap.size + 1) 30 #[.slice none 0 0] ∧ Blk_ wr (w.heap.size + 1 + 1) 30 #[.slice A k c] ∧ OArr 68 wr (w.heap.size + 3) (.slice A k c) (a.take k)) (fun i _ => a.length - (intOf i).toNat)
  case atStart => exact ⟨0, none, 0, rfl, Nat.zero_le _, hx, hb1, hb2, hb3, OArr.nil _ _ _⟩
  case round =>
    clear hx hb1 hb2 hb3
    obtain ⟨k, A, c, rfl, hk, hx, hb1, hb2, hb3, ho⟩ := hrel
    by_cases hlt : k < a.length
    · obtain ⟨b, o, rfl, hcell⟩ := hr k hlt
      obtain ⟨cs, hl, hcs, hd⟩ := hcell k hlt
      obtain ⟨A1, c1, A2, c2, rfl⟩ := hd.form
      have q0 := hx.cell (hcs 0 _ rfl)
      have q1 := hx.cell (hcs 1 _ rfl)
      simp only [Nat.add_zero] at q0
      have f0 := hb1.cell 0
      simp at f0
      clear hcell hcs hl
      have HR := Lib.hid hr
      clear hr
      go_wp2
      refine wp_abs (fun W => Ext wr W ∧ Blk_ W wr.heap.size 68 #[.slice A1 a[k].sec.length c1, .slice A2 a[k].lost.length c2]) ⟨(Ext.refl _).alloc _, Blk_.new _ _ _⟩ ?_
      rintro W1 ⟨hx1, hb4⟩
      have g0 := (hb3.ext hx1).cell 0
      have g1 := hb4.cell 0
      have g2 := hb4.cell 1
      simp at g0 g1 g2
      refine wp_region_begin (S := fun W' => W'.cell? ⟨w.heap.size + 1 + 1, 0, none⟩ = some (.slice A k c) ∧ W'.cell? ⟨wr.heap.size, 0, none⟩ = some (.slice A1 a[k].sec.length c1) ∧ W'.cell? ⟨wr.heap.size, 1, none⟩ = some (.slice A2 a[k].lost.length c2)) (n := 7) (by kernel_rfl) rfl (by kernel_rfl) rfl ?_
      have hS0 : (fun W' => W'.cell? ⟨w.heap.size + 1 + 1, 0, none⟩ = some (.slice A k c) ∧ W'.cell? ⟨wr.heap.size, 0, none⟩ = some (.slice A1 a[k].sec.length c1) ∧ W'.cell? ⟨wr.heap.size, 1, none⟩ = some (.slice A2 a[k].lost.length c2)) W1.drew := ⟨g0, g1, g2⟩
      refine wpAnyH_takeL (i := 0) (v := ?_) rfl (by kernel_rfl) (fun _ _ _ h => h) rfl ?_ hS0 ?_
      rotate_left
      · intro w' hS
        try dsimp only at hS
        go_simp
        rfl
      simp only [Act.put, List.setIfInBounds_toArray, List.set_cons_zero, List.set_cons_succ]
      refine wpAnyH_takeL (i := 1) (v := ?_) rfl (by kernel_rfl) (fun _ _ _ h => h) rfl ?_ hS0 ?_
      rotate_left
      · intro w' hS
        try dsimp only at hS
        go_simp
        rfl
      simp only [Act.put, List.setIfInBounds_toArray, List.set_cons_zero, List.set_cons_succ]
      refine wpAnyH_takeL (i := 2) (v := ?_) rfl (by kernel_rfl) (fun _ _ _ h => h) rfl ?_ hS0 ?_
      rotate_left
      · intro w' hS
        try dsimp only at hS
        go_simp
        rfl
      simp only [Act.put, List.setIfInBounds_toArray, List.set_cons_zero, List.set_cons_succ]
      refine wpAnyH_oneL (i := 3) rfl (by kernel_rfl) rfl (fun K hK => ?_)
      go_wp2_with fail
      refine (devCopy_any [.slice A1 a[k].sec.length c1, .slice A2 a[k].lost.length c2] a[k] _ (hd.up ((hx.trans hx1).drew))).mono ?_
      rintro e w2 ⟨B1, k1, B2, k2, rfl, hx2, o1, o2⟩
      have e2 : Ext W1 w2 := (Ext.refl W1).drew.trans hx2
      refine hK _ _ ⟨e2.cell g0, e2.cell g1, e2.cell g2⟩ ?_
      clear hK K
      try simp only [Act.put, List.setIfInBounds_toArray, List.set_cons_zero, List.set_cons_succ]
      refine wpAnyH_oneL (i := 4) rfl (by kernel_rfl) rfl (fun K hK => ?_)
      go_wp2_with fail
      have e3 : Ext W1 (w2.alloc (.cells #[.slice B1 a[k].sec.length k1, .slice B2 a[k].lost.length k2] 68)) := e2.alloc _
      have hb5 := Blk_.new w2 68 #[.slice B1 a[k].sec.length k1, .slice B2 a[k].lost.length k2]
      have hx3 : Ext w2 (w2.alloc (.cells #[.slice B1 a[k].sec.length k1, .slice B2 a[k].lost.length k2] 68)) := (Ext.refl _).alloc _
      refine hK _ _ ⟨e3.cell g0, e3.cell g1, e3.cell g2⟩ ?_
      clear hK K
      generalize w2.alloc (.cells #[.slice B1 a[k].sec.length k1, .slice B2 a[k].lost.length k2] 68) = w3 at e3 hb5 hx3
      refine wpAnyH_oneL (i := 5) rfl (by kernel_rfl) rfl (fun K hK => ?_)
      have hdn : RDev w3 [.slice B1 a[k].sec.length k1, .slice B2 a[k].lost.length k2] a[k] := (hd.again o1 o2).up hx3
      obtain ⟨xs0, hown0, _⟩ := ho.pushes
      obtain ⟨xs, hown, hpush⟩ := (ho.ext (hx1.trans e3)).pushes
      obtain ⟨i0, hi, hz0, hz1, hz2⟩ := info_parts info_dev
      have hlen : (a.take k).length = k := by rw [List.length_take]; omega
      rw [hlen] at hown hpush
      refine wp_append_at _ (.tmp 15) (.tmp 18) 28 rfl (w.heap.size + 3) 68 i0 (.agg #[.slice none 0 0, .slice none 0 0]) 2 48 Tryz.underlying28 hi hz0 hz1 hz2 rfl (by decide) _ _ xs rfl hown ⟨w2.heap.size, 0, none⟩ 1 1 [.slice B1 a[k].sec.length k1, .slice B2 a[k].lost.length k2] rfl rfl ?_ ?_ ?_ ?_ ?_ ?_
      · intro j u hu
        rw [Addr.add_lit, Nat.zero_add, hb5.cell]
        simpa using hu
      · intro u hu
        simp at hu
        rcases hu with rfl | rfl <;> rfl
      · unfold maxLen; omega
      · omega
      · have := e3.size; have := hx1.size; have := hb3.lt; omega
      intro A' c' w4 hown' hg' hb'
      have hbase : ∀ g, (Value.slice A k c).ownBlock = some g → w.heap.size + 3 ≤ g := fun g hgg => (hown.lt g hgg).1
      have hnb : w.heap.size + 3 ≤ W1.drew.heap.size := by have := hx1.size; have := hb3.lt; simp; omega
      have hox : OArr 68 w4 (w.heap.size + 3) (.slice A' (k + 1) c') (a.take k ++ [a[k]]) := hpush w4 _ _ _ _ hown' hg' hb' hdn (fun g hgg => by
        refine hdn.newG (New.own o1) (New.own o2) ?_
        have := (hown0.lt g hgg).2
        have := hx1.size
        simp; omega) ((New.own o1).mono hnb) ((New.own o2).mono hnb)
      have hx4 : Ext w w4 := ((hx.trans hx1).trans e3).grown hg' (fun g hgg => by have := hbase g hgg; omega)
      have j1 := (hb1.ext (hx1.trans e3)).grown hg' (fun g hgg => by have := hbase g hgg; omega)
      have j2 := (hb2.ext (hx1.trans e3)).grown hg' (fun g hgg => by have := hbase g hgg; omega)
      have j3 := (hb3.ext (hx1.trans e3)).grown hg' (fun g hgg => by have := hbase g hgg; omega)
      have j3c := j3.cell 0
      have j3f := j3.frozen 0
      simp at j3c
      have j4 := (hb4.ext e3).grown hg' (fun g hgg => by have := (hown0.lt g hgg).2; omega)
      have j40 := j4.cell 0
      have j41 := j4.cell 1
      simp at j40 j41
      refine hK _ _ ⟨j3c, j40, j41⟩ ?_
      clear hK K
      try simp only [Act.put, List.setIfInBounds_toArray, List.set_cons_zero, List.set_cons_succ]
      refine wpAnyH_takeL (i := 6) (v := ?_) rfl (by kernel_rfl) (fun _ _ _ h => h) rfl ?_ ⟨j3c, j40, j41⟩ ?_
      rotate_left
      · intro w' hS
        try dsimp only at hS
        go_simp
        rfl
      simp only [Act.put, List.setIfInBounds_toArray, List.set_cons_zero, List.set_cons_succ]
      refine wpAnyH_endL (by kernel_rfl) (fun K hK => ?_)
      go_wp2
      go_roundw
      case rel =>
        refine ⟨k + 1, A', c', by go_num, by omega, hx4.setCell (by dsimp only; omega) _, j1.far (by dsimp only; omega) _, j2.far (by dsimp only; omega) _, ?_, ?_⟩
        · exact j3.set 0 _
        · rw [← List.take_append_getElem hlt]
          exact hox.far (by dsimp only; omega) _
      case measure => simp [intOf]; omega
    · obtain rfl : k = a.length := by omega
      have f0 := hb3.cell 0
      simp at f0
      have f1 := hb2.cell 0
      have f2 := hb2.frozen 0
      simp at f1
      clear hr
      rw [List.take_length] at ho
      have hb5 := hb2.set 0 (.slice A a.length c)
      have H5 := Lib.hid hb5
      clear hb5
      go_wp2
      refine bodyPost_ret (res_cell rfl rfl H5.out Tryz.underlying30 rfl (by kernel_rfl)) rfl ?_
      exact ⟨A, c, rfl, hx.setCell (by dsimp only; omega) _, (ho.far (by dsimp only; omega) _).base (by omega)⟩

end Go.Proofs.YtgjijcgkmofaaaaGreatDoor

/-
  catalog.Name and the document's NameMay: both tell whether a text may be a name; the law CatalogNames. Conditions: the text is no longer than a text may be.
-/
namespace Go.Proofs.YtgjijcgkmofaaaaGreatDoor
set_option linter.unusedSimpArgs false
set_option linter.unusedVariables false
open Go.RowKit

/-- A name. -/
def nameMay (s : ByteArray) : Bool := decide (1 ≤ s.size) && decide (s.size ≤ 8) && !((lst s).any badByte)

theorem bytes_read (w : World) (s : ByteArray) (e : TypeId) (cap : Nat) (fr : Nat × Nat) (hc : s.size ≤ cap) (hs : s.size ≤ 140737488355328) :
    SlR 1 1 RByte (w.drew.alloc (.cells (bytesRow s cap) e fr)) (.slice (some ⟨w.heap.size, 0, none⟩) s.size cap) (lst s) := by
  refine ⟨some ⟨w.heap.size, 0, none⟩, cap, by rw [length_lst], by rw [length_lst]; omega, by rw [length_lst]; exact hc, ?_⟩
  right
  refine ⟨w.heap.size, 0, rfl, fun i hi => ⟨[.int .u8 (lst s)[i].toNat], rfl, fun j hj => ?_, rfl⟩⟩
  have hj0 : j = 0 := by omega
  subst hj0
  have hi' : i < s.data.size := by rw [length_lst] at hi; exact hi
  rw [show (⟨w.heap.size, 0 + i * 1 + 0, none⟩ : Addr) = ⟨w.drew.heap.size, i, none⟩ from by simp, World.cell?_alloc_mark, bytesRow_at s cap i hi']
  rfl

set_option maxRecDepth 100000 in
set_option maxHeartbeats 400000 in
theorem name_any (s : ByteArray) (w : World) (hs : s.size ≤ 140737488355328) :
    Calls Tryz.prog 73 #[.string s] w fun e w' => e = .returned (.bool (nameMay s)) ∧ Ext w w' := by
  by_cases h1 : s.size = 0
  · have hm : nameMay s = false := by unfold nameMay; rw [decide_eq_false (by omega : ¬ 1 ≤ s.size)]; rfl
    have hl : s.toList = [] := by rw [toList_lst]; exact List.eq_nil_of_length_eq_zero (by rw [length_lst]; exact h1)
    have hl2 : (!s.toList.isEmpty) = false := by rw [hl]; rfl
    rw [hm]
    clear hm h1
    go_enter Tryz.func73, Tryz.ntmps73
    go_wp2
    go_ret
    exact ⟨rfl, Ext.refl _⟩
  · have hl : s.toList.isEmpty = false := by
      rw [toList_lst]
      cases h : lst s with
      | nil => exfalso; apply h1; rw [← length_lst, h]; rfl
      | cons a l => rfl
    have hl2 : (!s.toList.isEmpty) = true := by rw [hl]; rfl
    by_cases h2 : s.size ≤ 8
    · have hm : nameMay s = !((lst s).any badByte) := by
        unfold nameMay; rw [decide_eq_true (by omega : 1 ≤ s.size), decide_eq_true h2]; simp
      have h2' : decide ((s.size : Int) ≤ 8) = true := by simp; omega
      have HM := Lib.hid hm
      have hconv := fun W => run_bytes_of_string (P := Tryz.prog) W 9 95 5 s Tryz.underlying9 Tryz.underlying95 Tryz.underlying5
      clear hm h1
      go_enter Tryz.func73, Tryz.ntmps73
      go_wp2_with fail
      refine (contains_byte _ (lst s) _ (bytes_read w s _ _ _ (grownCap_ge _ _ _ _) hs)).mono ?_
      rintro e w1 ⟨rfl, rfl⟩
      clear hconv
      go_wp2
      go_ret
      exact ⟨ret_bool HM.out.symm, ((Ext.refl w).alloc _).drew⟩
    · have hm : nameMay s = false := by unfold nameMay; rw [decide_eq_false h2]; simp
      have h2' : decide ((s.size : Int) ≤ 8) = false := by simp; omega
      rw [hm]
      clear hm h1
      go_enter Tryz.func73, Tryz.ntmps73
      go_wp2
      go_ret
      exact ⟨rfl, Ext.refl _⟩

theorem badByte_in (c : UInt8) : badByte c = (!(inB (c.toNat : Int) 97 122) && !(inB (c.toNat : Int) 48 57)) := by
  unfold badByte inB
  rw [Bool.eq_iff_iff]
  simp

end Go.Proofs.YtgjijcgkmofaaaaGreatDoor

/-
  strings.Repeat in this seat: the library's contract, laid (printed by the kit's lay-shelf and lay-plain). Conditions: none.
-/
namespace Go.Proofs.YtgjijcgkmofaaaaGreatDoor
open Go.Shelf
def Tryz.lays105_ren : Go.Shelf.Ren := ⟨fun | 105 => 56 | 212 => 88 | 99 => 89 | 165 => 90 | 166 => 48 | 170 => 91 | 169 => 50 | 263 => 132 | 264 => 133 | 206 => 134 | 240 => 81 | 241 => 135 | 276 => 128 | 277 => 168 | n => n, fun | 9 => 9 | 3 => 3 | 4 => 4 | 20 => 20 | 0 => 0 | 46 => 129 | 109 => 151 | 5 => 5 | 72 => 97 | 76 => 100 | 51 => 176 | 146 => 195 | 53 => 178 | 148 => 197 | 70 => 94 | 37 => 95 | 75 => 99 | 127 => 148 | 164 => 189 | 80 => 103 | n => n, fun | n => n⟩
theorem Tryz.lays105 : Go.Proofs.Lays.n105 Tryz.prog Tryz.lays105_ren := {
  mixed := by kernel_rfl
  f99 := Tryz.func89.trans (congrArg some (by kernel_rfl))
  f105 := Tryz.func56.trans (congrArg some (by kernel_rfl))
  f165 := Tryz.func90.trans (congrArg some (by kernel_rfl))
  f166 := Tryz.func48.trans (congrArg some (by kernel_rfl))
  f169 := Tryz.func50.trans (congrArg some (by kernel_rfl))
  f170 := Tryz.func91.trans (congrArg some (by kernel_rfl))
  f206 := Tryz.func134.trans (congrArg some (by kernel_rfl))
  f212 := Tryz.func88.trans (congrArg some (by kernel_rfl))
  f240 := Tryz.func81.trans (congrArg some (by kernel_rfl))
  f241 := Tryz.func135.trans (congrArg some (by kernel_rfl))
  f263 := Tryz.func132.trans (congrArg some (by kernel_rfl))
  f264 := Tryz.func133.trans (congrArg some (by kernel_rfl))
  f276 := Tryz.func128.trans (congrArg some (by kernel_rfl))
  f277 := Tryz.func168.trans (congrArg some (by kernel_rfl))
  t0 := Tryz.underlying0
  a0 := Tryz.isAgg0
  z0 := Tryz.sizeOf0
  v0 := Tryz.zeroValue0
  t3 := Tryz.underlying3
  a3 := Tryz.isAgg3
  z3 := Tryz.sizeOf3
  v3 := Tryz.zeroValue3
  t4 := Tryz.underlying4
  a4 := Tryz.isAgg4
  z4 := Tryz.sizeOf4
  v4 := Tryz.zeroValue4
  t5 := Tryz.underlying5
  a5 := Tryz.isAgg5
  z5 := Tryz.sizeOf5
  v5 := Tryz.zeroValue5
  t9 := Tryz.underlying9
  a9 := Tryz.isAgg9
  z9 := Tryz.sizeOf9
  v9 := Tryz.zeroValue9
  t20 := Tryz.underlying20
  a20 := Tryz.isAgg20
  z20 := Tryz.sizeOf20
  v20 := Tryz.zeroValue20
  t37 := Tryz.underlying95
  a37 := Tryz.isAgg95
  z37 := Tryz.sizeOf95
  v37 := Tryz.zeroValue95
  t46 := Tryz.underlying129
  a46 := Tryz.isAgg129
  z46 := Tryz.sizeOf129
  v46 := Tryz.zeroValue129
  t51 := Tryz.underlying176
  a51 := Tryz.isAgg176
  z51 := Tryz.sizeOf176
  v51 := Tryz.zeroValue176
  t53 := Tryz.underlying178
  a53 := Tryz.isAgg178
  z53 := Tryz.sizeOf178
  v53 := Tryz.zeroValue178
  t70 := Tryz.underlying94
  a70 := Tryz.isAgg94
  z70 := Tryz.sizeOf94
  v70 := Tryz.zeroValue94
  t72 := Tryz.underlying97
  a72 := Tryz.isAgg97
  z72 := Tryz.sizeOf97
  v72 := Tryz.zeroValue97
  t75 := Tryz.underlying99
  a75 := Tryz.isAgg99
  z75 := Tryz.sizeOf99
  v75 := Tryz.zeroValue99
  t76 := Tryz.underlying100
  a76 := Tryz.isAgg100
  z76 := Tryz.sizeOf100
  v76 := Tryz.zeroValue100
  t109 := Tryz.underlying151
  a109 := Tryz.isAgg151
  z109 := Tryz.sizeOf151
  v109 := Tryz.zeroValue151
  t127 := Tryz.underlying148
  a127 := Tryz.isAgg148
  z127 := Tryz.sizeOf148
  v127 := Tryz.zeroValue148
  t146 := Tryz.underlying195
  a146 := Tryz.isAgg195
  z146 := Tryz.sizeOf195
  v146 := Tryz.zeroValue195
  t148 := Tryz.underlying197
  a148 := Tryz.isAgg197
  z148 := Tryz.sizeOf197
  v148 := Tryz.zeroValue197
  t164 := Tryz.underlying189
  a164 := Tryz.isAgg189
  z164 := Tryz.sizeOf189
  v164 := Tryz.zeroValue189 }
theorem Tryz.Builder_Extra_105 : Builder.Extra Tryz.prog Tryz.lays105_ren := {
  sizeBuilder := by kernel_rfl
  liesBuilder := by kernel_rfl
  t5 := Tryz.underlying5
  a5 := Tryz.isAgg5
  z5 := Tryz.sizeOf5
  v5 := Tryz.zeroValue5
  infoByte := by kernel_rfl
  cellsByte := by kernel_rfl
  sizeByte := by kernel_rfl
  neB5 := by decide }
open Go.RowKit Go.Lib in
/-- **strings.Repeat: count ≥ 0, the result within one allocation: count copies of s.** (LAID: no walk: one application.) -/
theorem Tryz.strings_Repeat (s : ByteArray) (c : Nat) (w : World) (hc : c ≤ 9223372036854775807) (hlen : s.size * c ≤ 140737488355328) :
    Calls Tryz.prog 56 #[.string s, .int .i64 c] w fun e w' => e = .returned (.string ⟨(Lib.repeatL s.data.toList c).toArray⟩) ∧ Below w.heap.size w w' := Any.strings_Repeat Tryz.lays105 Tryz.Builder_Extra_105 s c w hc hlen
end Go.Proofs.YtgjijcgkmofaaaaGreatDoor

/-
  sector.Encode and the document's SectorBytes: the bytes of a sector, or why there are none; the law SectorEncodes. Conditions: the text is no longer than a text may be.
-/
namespace Go.Proofs.YtgjijcgkmofaaaaGreatDoor
set_option linter.unusedSimpArgs false
set_option linter.unusedVariables false
open Go.RowKit

theorem repeat_one (c : UInt8) (n : Nat) : Lib.repeatL [c] n = List.replicate n c := by
  induction n with
  | zero => rfl
  | succ n ih => unfold Lib.repeatL; rw [ih]; rfl
theorem repeat_any (n : Int) (w : World) (h0 : 0 ≤ n) (hn : n ≤ 140737488355328) :
    Calls Tryz.prog 56 #[.string ⟨#[0]⟩, .int .i64 n] w fun e w' => e = .returned (.string (bs (List.replicate n.toNat 0))) ∧ Ext w w' := by
  obtain ⟨n, rfl⟩ := Int.eq_ofNat_of_zero_le h0
  refine (Tryz.strings_Repeat ⟨#[0]⟩ n w (by omega) (by show 1 * n ≤ _; omega)).mono ?_
  rintro e w' ⟨rfl, h⟩
  refine ⟨?_, h⟩
  have : Lib.repeatL ([0] : List UInt8) n = List.replicate n 0 := repeat_one 0 n
  exact ret_str (by show (⟨(Lib.repeatL ([0] : List UInt8) n).toArray⟩ : ByteArray) = _; rw [this]; rfl)

theorem byte_wrap (n : Int) : byte (IntKind.u8.wrap n) = byte (n % 256) := by
  unfold byte
  simp only [IntKind.wrap, IntKind.bits, IntKind.signed]
  first | rfl | (congr 1; omega) | skip
theorem rawS_join (no : Int) (s : ByteArray) : bs [byte (no / 256), byte (no % 256)] ++ s ++ bs (List.replicate (24 - s.size) 0) = bs (rawS no s) := by
  rw [lst_append_bs, bs_append]; unfold rawS; simp
theorem rawS_small {no : Int} {s : ByteArray} (h2 : s.size ≤ 24) : (bs (rawS no s)).size ≤ 140737488355328 := by
  rw [size_bs, rawS_length h2]; decide
set_option maxRecDepth 100000 in
set_option maxHeartbeats 400000 in
theorem encode_ok (no : Int) (s : ByteArray) (w : World) (h0 : 0 ≤ no) (h1 : no ≤ 65535) (h2 : s.size ≤ 24) :
    Calls Tryz.prog 152 #[.int .i64 no, .string s] w fun e w' => e = .returned (.tuple #[.string (bs (rawS no s ++ sealOf (rawS no s))), .int .i64 0]) ∧ Ext w w' := by
  have hq : (0 : Int) ≤ no / 256 := by omega
  have hq2 : no / 256 ≤ 255 := by omega
  have hc1 : ¬ (9223372036854775807 < 2 + s.size) := by omega
  have hc2 : ¬ (9223372036854775807 < 2 + s.size + (24 - s.size)) := by omega
  have HS := Lib.hid (rawS_small (no := no) h2)
  go_enter Tryz.func152, Tryz.ntmps152
  go_wp2_with fail
  refine wp_region_begin (S := fun _ => True) (n := 14) (by kernel_rfl) rfl (by kernel_rfl) rfl ?_
  refine wpAnyH_takeL (i := 0) (v := ?_) rfl (by kernel_rfl) (fun _ _ _ h => h) rfl ?_ trivial ?_
  rotate_left
  · intro w' hS
    try dsimp only at hS
    go_simp
    rfl
  try simp only [Act.put, List.setIfInBounds_toArray, List.set_cons_zero, List.set_cons_succ]
  refine wpAnyH_takeL (i := 1) (v := ?_) rfl (by kernel_rfl) (fun _ _ _ h => h) rfl ?_ trivial ?_
  rotate_left
  · intro w' hS
    try dsimp only at hS
    go_simp
    rfl
  try simp only [Act.put, List.setIfInBounds_toArray, List.set_cons_zero, List.set_cons_succ]
  refine wpAnyH_takeL (i := 2) (v := ?_) rfl (by kernel_rfl) (fun _ _ _ h => h) rfl ?_ trivial ?_
  rotate_left
  · intro w' hS
    try dsimp only at hS
    go_simp
    rfl
  try simp only [Act.put, List.setIfInBounds_toArray, List.set_cons_zero, List.set_cons_succ]
  refine wpAnyH_takeL (i := 3) (v := ?_) rfl (by kernel_rfl) (fun _ _ _ h => h) rfl ?_ trivial ?_
  rotate_left
  · intro w' hS
    try dsimp only at hS
    go_simp
    rfl
  try simp only [Act.put, List.setIfInBounds_toArray, List.set_cons_zero, List.set_cons_succ]
  refine wpAnyH_takeL (i := 4) (v := ?_) rfl (by kernel_rfl) (fun _ _ _ h => h) rfl ?_ trivial ?_
  rotate_left
  · intro w' hS
    try dsimp only at hS
    go_simp
    rfl
  try simp only [Act.put, List.setIfInBounds_toArray, List.set_cons_zero, List.set_cons_succ]
  refine wpAnyH_takeL (i := 7) (v := ?_) rfl (by kernel_rfl) (fun _ _ _ h => h) rfl ?_ trivial ?_
  rotate_left
  · intro w' hS
    try dsimp only at hS
    go_simp
    rfl
  try simp only [Act.put, List.setIfInBounds_toArray, List.set_cons_zero, List.set_cons_succ]
  refine wpAnyH_takeL (i := 9) (v := ?_) rfl (by kernel_rfl) (fun _ _ _ h => h) rfl ?_ trivial ?_
  rotate_left
  · intro w' hS
    try dsimp only at hS
    go_simp
    rfl
  try simp only [Act.put, List.setIfInBounds_toArray, List.set_cons_zero, List.set_cons_succ]
  refine wpAnyH_takeL (i := 10) (v := ?_) rfl (by kernel_rfl) (fun _ _ _ h => h) rfl ?_ trivial ?_
  rotate_left
  · intro w' hS
    try dsimp only at hS
    go_simp
    rfl
  try simp only [Act.put, List.setIfInBounds_toArray, List.set_cons_zero, List.set_cons_succ]
  refine wpAnyH_takeL (i := 11) (v := ?_) rfl (by kernel_rfl) (fun _ _ _ h => h) rfl ?_ trivial ?_
  rotate_left
  · intro w' hS
    try dsimp only at hS
    go_simp
    rfl
  try simp only [Act.put, List.setIfInBounds_toArray, List.set_cons_zero, List.set_cons_succ]
  refine wpAnyH_twoL (i := 5) (j := 12) rfl rfl (by kernel_rfl) rfl rfl (fun K hK => ?_) (fun K hK => ?_)
  · go_wp2_with fail
    refine hK _ _ trivial ?_
    clear hK K
    try simp only [Act.put, List.setIfInBounds_toArray, List.set_cons_zero, List.set_cons_succ]
    refine anyH_abs (fun W => Ext w W ∧ Blk_ W w.heap.size 5 #[.int .u8 (no / 256), .int .u8 (no % 256)]) ⟨(Ext.refl w).drew.alloc _, by first | exact Blk_.new _ _ _ | exact (Blk_.new _ _ _).drew⟩ ?_
    rintro W5 ⟨eW5, bW5⟩
    refine wpAnyH_twoL (i := 6) (j := 12) rfl rfl (by kernel_rfl) rfl rfl (fun K hK => ?_) (fun K hK => ?_)
    · refine wp_conv2 (.tmp 21) 95 9 5 rfl Tryz.underlying95 Tryz.underlying5 Tryz.underlying9 w.heap.size _ _ rfl bW5 ?_
      refine hK _ _ trivial ?_
      clear hK K
      try simp only [Act.put, List.setIfInBounds_toArray, List.set_cons_zero, List.set_cons_succ]
      refine wpAnyH_takeL (i := 8) (v := ?_) rfl (by kernel_rfl) (fun _ _ _ h => h) rfl ?_ trivial ?_
      rotate_left
      · intro w' hS
        try dsimp only at hS
        go_simp
        rfl
      try simp only [Act.put, List.setIfInBounds_toArray, List.set_cons_zero, List.set_cons_succ]
      refine wpAnyH_oneL (i := 12) rfl (by kernel_rfl) rfl (fun K hK => ?_)
      go_wp2_with fail
      refine (repeat_any _ _ (by omega) (by omega)).mono ?_
      rintro e W6 ⟨rfl, hW6⟩
      have eW6 := eW5.trans hW6
      refine hK _ _ trivial ?_
      clear hK K
      try simp only [Act.put, List.setIfInBounds_toArray, List.set_cons_zero, List.set_cons_succ]
      refine wpAnyH_takeL (i := 13) (v := ?_) rfl (by kernel_rfl) (fun _ _ _ h => h) rfl ?_ trivial ?_
      rotate_left
      · intro w' hS
        try dsimp only at hS
        go_simp
        rfl
      try simp only [Act.put, List.setIfInBounds_toArray, List.set_cons_zero, List.set_cons_succ]
      refine wpAnyH_endL (by kernel_rfl) (fun K hK => ?_)
      rw [rawS_join no s]
      have hsz := HS.out
      have hbl : (bs (rawS no s)).size = 26 := by rw [size_bs, rawS_length h2]
      generalize hbe : bs (rawS no s) = b at *
      have HE := Lib.hid hbe
      clear hbe
      have hc3 : ¬ (9223372036854775807 < b.size + 4) := by omega
      have hc4 : ¬ (9223372036854775807 < b.size + (sealOf (lst b)).length) := by rw [length_sealOf]; omega
      go_wp2_with fail
      refine (sumOf_any b _ hsz).mono ?_
      rintro e w9 ⟨rfl, h9⟩
      go_wp2_with fail
      go_ret2
      refine ⟨?_, eW6.trans h9⟩
      rw [← HE.out, lst_bs, bs_append]
      rfl
    · go_wp2_with fail
      refine (repeat_any _ _ (by omega) (by omega)).mono ?_
      rintro e W6 ⟨rfl, hW6⟩
      have eW6 := eW5.trans hW6
      refine hK _ _ trivial ?_
      clear hK K
      try simp only [Act.put, List.setIfInBounds_toArray, List.set_cons_zero, List.set_cons_succ]
      refine wpAnyH_oneL (i := 6) rfl (by kernel_rfl) rfl (fun K hK => ?_)
      have bW6 := bW5.ext hW6
      refine wp_conv2 (.tmp 21) 95 9 5 rfl Tryz.underlying95 Tryz.underlying5 Tryz.underlying9 w.heap.size _ _ rfl bW6 ?_
      refine hK _ _ trivial ?_
      clear hK K
      try simp only [Act.put, List.setIfInBounds_toArray, List.set_cons_zero, List.set_cons_succ]
      refine wpAnyH_takeL (i := 8) (v := ?_) rfl (by kernel_rfl) (fun _ _ _ h => h) rfl ?_ trivial ?_
      rotate_left
      · intro w' hS
        try dsimp only at hS
        go_simp
        rfl
      try simp only [Act.put, List.setIfInBounds_toArray, List.set_cons_zero, List.set_cons_succ]
      refine wpAnyH_takeL (i := 13) (v := ?_) rfl (by kernel_rfl) (fun _ _ _ h => h) rfl ?_ trivial ?_
      rotate_left
      · intro w' hS
        try dsimp only at hS
        go_simp
        rfl
      try simp only [Act.put, List.setIfInBounds_toArray, List.set_cons_zero, List.set_cons_succ]
      refine wpAnyH_endL (by kernel_rfl) (fun K hK => ?_)
      rw [rawS_join no s]
      have hsz := HS.out
      have hbl : (bs (rawS no s)).size = 26 := by rw [size_bs, rawS_length h2]
      generalize hbe : bs (rawS no s) = b at *
      have HE := Lib.hid hbe
      clear hbe
      have hc3 : ¬ (9223372036854775807 < b.size + 4) := by omega
      have hc4 : ¬ (9223372036854775807 < b.size + (sealOf (lst b)).length) := by rw [length_sealOf]; omega
      go_wp2_with fail
      refine (sumOf_any b _ hsz).mono ?_
      rintro e w9 ⟨rfl, h9⟩
      go_wp2_with fail
      go_ret2
      refine ⟨?_, eW6.trans h9⟩
      rw [← HE.out, lst_bs, bs_append]
      rfl
  · go_wp2_with fail
    refine (repeat_any _ _ (by omega) (by omega)).mono ?_
    rintro e W5 ⟨rfl, hW5⟩
    have eW5 := (Ext.refl w).drew.trans hW5
    refine hK _ _ trivial ?_
    clear hK K
    try simp only [Act.put, List.setIfInBounds_toArray, List.set_cons_zero, List.set_cons_succ]
    refine wpAnyH_oneL (i := 5) rfl (by kernel_rfl) rfl (fun K hK => ?_)
    go_wp2_with fail
    refine hK _ _ trivial ?_
    clear hK K
    try simp only [Act.put, List.setIfInBounds_toArray, List.set_cons_zero, List.set_cons_succ]
    refine anyH_abs (fun W => Ext w W ∧ Blk_ W W5.heap.size 5 #[.int .u8 (no / 256), .int .u8 (no % 256)]) ⟨eW5.alloc _, by first | exact Blk_.new _ _ _ | exact (Blk_.new _ _ _).drew⟩ ?_
    rintro W6 ⟨eW6, bW6⟩
    refine wpAnyH_oneL (i := 6) rfl (by kernel_rfl) rfl (fun K hK => ?_)
    refine wp_conv2 (.tmp 21) 95 9 5 rfl Tryz.underlying95 Tryz.underlying5 Tryz.underlying9 W5.heap.size _ _ rfl bW6 ?_
    refine hK _ _ trivial ?_
    clear hK K
    try simp only [Act.put, List.setIfInBounds_toArray, List.set_cons_zero, List.set_cons_succ]
    refine wpAnyH_takeL (i := 8) (v := ?_) rfl (by kernel_rfl) (fun _ _ _ h => h) rfl ?_ trivial ?_
    rotate_left
    · intro w' hS
      try dsimp only at hS
      go_simp
      rfl
    try simp only [Act.put, List.setIfInBounds_toArray, List.set_cons_zero, List.set_cons_succ]
    refine wpAnyH_takeL (i := 13) (v := ?_) rfl (by kernel_rfl) (fun _ _ _ h => h) rfl ?_ trivial ?_
    rotate_left
    · intro w' hS
      try dsimp only at hS
      go_simp
      rfl
    try simp only [Act.put, List.setIfInBounds_toArray, List.set_cons_zero, List.set_cons_succ]
    refine wpAnyH_endL (by kernel_rfl) (fun K hK => ?_)
    rw [rawS_join no s]
    have hsz := HS.out
    have hbl : (bs (rawS no s)).size = 26 := by rw [size_bs, rawS_length h2]
    generalize hbe : bs (rawS no s) = b at *
    have HE := Lib.hid hbe
    clear hbe
    have hc3 : ¬ (9223372036854775807 < b.size + 4) := by omega
    have hc4 : ¬ (9223372036854775807 < b.size + (sealOf (lst b)).length) := by rw [length_sealOf]; omega
    go_wp2_with fail
    refine (sumOf_any b _ hsz).mono ?_
    rintro e w9 ⟨rfl, h9⟩
    go_wp2_with fail
    go_ret2
    refine ⟨?_, eW6.trans h9⟩
    rw [← HE.out, lst_bs, bs_append]
    rfl

theorem encode_bad1 (no : Int) (s : ByteArray) (h : no < 0 ∨ 65535 < no) : encodeS no s = (.empty, 2) := by unfold encodeS; rw [if_pos h]
theorem encode_bad2 (no : Int) (s : ByteArray) (h : ¬ (no < 0 ∨ 65535 < no)) (h2 : 24 < s.size) : encodeS no s = (.empty, 1) := by unfold encodeS; rw [if_neg h, if_pos h2]
set_option maxRecDepth 100000 in
set_option maxHeartbeats 400000 in
theorem encode_any (no : Int) (s : ByteArray) (w : World) (hn : I64 no) (hs : s.size ≤ 140737488355328) :
    Calls Tryz.prog 152 #[.int .i64 no, .string s] w fun e w' => e = .returned (.tuple #[.string (encodeS no s).1, .int .i64 (encodeS no s).2]) ∧ Ext w w' := by
  by_cases h : no < 0 ∨ 65535 < no
  · rw [encode_bad1 no s h]
    by_cases h1 : no < 0
    · clear h
      go_enter Tryz.func152, Tryz.ntmps152
      go_wp2
      go_ret2
      exact ⟨rfl, Ext.refl _⟩
    · have h2 : 65535 < no := by omega
      clear h
      go_enter Tryz.func152, Tryz.ntmps152
      go_wp2
      go_ret2
      exact ⟨rfl, Ext.refl _⟩
  · by_cases h2 : 24 < s.size
    · rw [encode_bad2 no s h h2]
      have h3 : 0 ≤ no := by omega
      have h4 : no ≤ 65535 := by omega
      have h5 : (24 : Int) < (s.size : Int) := by omega
      clear h
      go_enter Tryz.func152, Tryz.ntmps152
      go_wp2
      go_ret2
      exact ⟨rfl, Ext.refl _⟩
    · rw [encodeS_ok (by omega) (by omega) (by omega)]
      exact encode_ok no s w (by omega) (by omega) (by omega)
end Go.Proofs.YtgjijcgkmofaaaaGreatDoor

/-
  device.Turn and the document's DeviceTurned: a byte of a sector is turned in a copy; the law DeviceTurns. Conditions: the argument reads as a device.
-/
namespace Go.Proofs.YtgjijcgkmofaaaaGreatDoor
set_option linter.unusedSimpArgs false
set_option linter.unusedVariables false
open Go.RowKit

theorem turn_good {d : Dev} {k : Nat} {place by_ : Int} (h : touchCode d k = 0) (h1 : 0 ≤ place) (h2 : place ≤ 29) (h3 : 0 ≤ by_) (h4 : by_ ≤ 255) : turnS d k place by_ = (⟨d.sec.set k (turnB (d.sec.getD k .empty) place by_), d.lost⟩, 0) := by
  unfold turnS; rw [if_pos h, if_pos (by simp [inB]; omega)]; rfl
theorem turn_range {d : Dev} {n place by_ : Int} (h : touchCode d n = 0) (h1 : ¬ (0 ≤ place ∧ place ≤ 29 ∧ 0 ≤ by_ ∧ by_ ≤ 255)) : turnS d n place by_ = (⟨[], []⟩, 2) := by
  unfold turnS; rw [if_pos h, if_neg (by simp [inB]; omega)]
theorem turn_bad {d : Dev} {n place by_ : Int} (h : ¬ touchCode d n = 0) : turnS d n place by_ = (⟨[], []⟩, touchCode d n) := by
  unfold turnS; rw [if_neg h]
theorem turn_join (s : ByteArray) (p b : Nat) (hp : p < s.size) (hs : s.size = 30) : s.extract 0 p ++ bs [byte (((s[p].toNat : Int) + (b : Int)) % 256)] ++ s.extract (p + 1) 30 = turnB s p b := by
  apply lst_inj
  have h1 : lst (s.extract 0 p) = (lst s).take p := by unfold lst; rw [ByteArray.data_extract, Array.toList_extract]; simp [List.extract]
  have h2 : lst (s.extract (p + 1) 30) = (lst s).drop (p + 1) := by
    unfold lst
    rw [ByteArray.data_extract, Array.toList_extract]
    simp only [List.extract]
    rw [List.take_of_length_le (by rw [List.length_drop, Array.length_toList]; have : s.data.size = 30 := hs; omega)]
  rw [lst_append, lst_append, lst_bs, h1, h2]
  unfold turnB
  rw [lst_bs, at_eq s (p : Int).toNat (by simpa using hp)]
  show _ = (lst s).set p _
  rw [List.set_eq_take_append_cons_drop, if_pos (by rw [length_lst]; exact hp)]
  simp
theorem getD_mem_ {α : Type} (l : List α) (k : Nat) (a : α) (h : k < l.length) : l.getD k a ∈ l := by
  rw [List.getD_eq_getElem?_getD, List.getElem?_eq_getElem h]; exact List.getElem_mem h

set_option maxRecDepth 100000 in
set_option maxHeartbeats 800000 in
theorem devTurn_any (cs : List Value) (d : Dev) (n place by_ : Int) (w : World) (h : RDev w cs d) (hn : I64 n) (hp : I64 place) (hb : I64 by_) :
    Calls Tryz.prog 100 #[.agg cs.toArray, .int .i64 n, .int .i64 place, .int .i64 by_] w fun e w' => ∃ A1 c1 A2 c2, e = .returned (.tuple #[.agg #[.slice A1 (turnS d n place by_).1.sec.length c1, .slice A2 (turnS d n place by_).1.lost.length c2], .int .i64 (turnS d n place by_).2]) ∧ Ext w w' ∧
      ODev 9 4 w' w.heap.size (.slice A1 (turnS d n place by_).1.sec.length c1) (.slice A2 (turnS d n place by_).1.lost.length c2) (turnS d n place by_).1 := by
  obtain ⟨A1, c1, A2, c2, rfl⟩ := h.form
  go_enter Tryz.func100, Tryz.ntmps100
  go_wp2_with fail
  refine calls_abs (fun W => Ext w W ∧ Blk_ W w.heap.size 68 #[.slice A1 d.sec.length c1, .slice A2 d.lost.length c2] ∧ Blk_ W (w.heap.size + 1) 68 #[.slice none 0 0, .slice none 0 0]) ⟨((Ext.refl _).alloc _).alloc _, (Blk_.new _ _ _).alloc _, Blk_.new1 _ _ _ _⟩ ?_
  rintro W ⟨hx, hbk, hbr⟩
  refine (devAt_any [.slice A1 d.sec.length c1, .slice A2 d.lost.length c2] d n W (h.up hx) hn).mono ?_
  rintro e w1 ⟨rfl, hx1⟩
  have hb1 := hbk.ext hx1
  have hbr1 := hbr.ext hx1
  have f0 := hb1.cell 0
  have f1 := hb1.cell 1
  simp at f0 f1
  have hr1 := h.up (hx.trans hx1)
  have hx0 := hx.trans hx1
  clear h hbk hbr hx hx1
  by_cases hc : touchCode d n = 0
  · by_cases hg : 0 ≤ place ∧ place ≤ 29 ∧ 0 ≤ by_ ∧ by_ ≤ 255
    · obtain ⟨g1, g2, g3, g4⟩ := hg
      clear hn
      obtain ⟨hm, n0, n1⟩ := touch_zero hc
      obtain ⟨m1, m2, m3, m4⟩ := devMay_len hm
      obtain ⟨k, rfl⟩ := Int.eq_ofNat_of_zero_le n0
      obtain ⟨p, rfl⟩ := Int.eq_ofNat_of_zero_le g1
      obtain ⟨b, rfl⟩ := Int.eq_ofNat_of_zero_le g3
      have hk2' : (k : Int) < (d.sec.length : Int) := by omega
      have hf := turn_good (d := d) (k := k) (place := p) (by_ := b) hc g1 g2 g3 g4
      have hs30 := m4 _ (getD_mem_ d.sec k .empty (by omega))
      have hlp : 0 < d.sec.length := by omega
      have HF := Lib.hid hf
      have t1 : decide ((p : Int) < 0) = false := by simp
      have t2 : decide ((30 : Int) ≤ (p : Int)) = false := by simp; omega
      have t3 : decide ((b : Int) < 0) = false := by simp
      have t4 : decide ((255 : Int) < (b : Int)) = false := by simp; omega
      have HZ := Lib.hid hs30
      have HG := Lib.hid (And.intro g2 g4)
      rw [hc]
      clear hc m4 hm hf hs30 g1 g2 g3 g4 hp hb m1 m2 m3 n0
      go_wp2_with fail
      refine (devCopy_any [.slice A1 d.sec.length c1, .slice A2 d.lost.length c2] d _ hr1).mono ?_
      rintro e w2 ⟨B1, k1, B2, k2, rfl, hx2, o1, o2⟩
      have hod := hr1.own o1 o2
      have hb2 := hb1.ext hx2
      have hbr2 := hbr1.ext hx2
      obtain ⟨g, rfl, hg1, hg2, hg3⟩ := own_form o1 hlp
      have g0 := hb2.cell 0
      have g1' := hb2.cell 1
      have z0 := hb2.frozen 0
      have z1 := hb2.frozen 1
      have y0 := hbr2.cell 0
      have y1 := hbr2.cell 1
      have x0 := hbr2.frozen 0
      have x1 := hbr2.frozen 1
      simp at g0 g1' y0 y1
      have zk := hg3 k
      have hs30 := HZ.out
      have ck := (o1.cellAt k (by omega)).trans (flat_str_get d.sec k (by omega))
      have es : d.sec[k]'(by omega) = d.sec.getD k .empty := by simp [show k < d.sec.length from by omega]
      rw [es] at ck
      obtain ⟨s, hs⟩ : ∃ s, s = d.sec.getD k .empty := ⟨_, rfl⟩
      rw [← hs] at ck hs30
      have HS := Lib.hid hs
      clear hs es
      have hlt := hbr1.lt
      have ne1 : ¬ (w.heap.size = g) := by omega
      have ne2 : ¬ (g = w.heap.size) := by omega
      have ne3 : ¬ (w.heap.size + 1 = g) := by omega
      have ne4 : ¬ (g = w.heap.size + 1) := by omega
      have hgw : w.heap.size ≤ g := by omega
      clear hr1 f0 f1 o1 o2 hb1 hbr1
      go_wp2_with (refine wpList_tobytes (.tmp 40) 9 95 5 rfl rfl Tryz.underlying9 Tryz.underlying95 Tryz.underlying5 s rfl ?_)
      intro gb cap w3 hgb e3 hbuf hcap
      have b3 := ((hb2.set 0 (.slice (some ⟨g, 0, none⟩) d.sec.length k1)).set 1 (.slice B2 d.lost.length k2)).ext e3
      have r3 := ((hbr2.far (p := ⟨w.heap.size, 0, none⟩) (by simp) (.slice (some ⟨g, 0, none⟩) d.sec.length k1)).far (p := ⟨w.heap.size, 1, none⟩) (by simp) (.slice B2 d.lost.length k2)).ext e3
      have o3 := ((hod.far (p := ⟨w.heap.size, 0, none⟩) (by simp; omega) (.slice (some ⟨g, 0, none⟩) d.sec.length k1)).far (p := ⟨w.heap.size, 1, none⟩) (by simp; omega) (.slice B2 d.lost.length k2)).ext e3
      have X3 := Lib.hid ((((hx0.trans hx2).setCell (p := ⟨w.heap.size, 0, none⟩) (by simp) (.slice (some ⟨g, 0, none⟩) d.sec.length k1)).setCell (p := ⟨w.heap.size, 1, none⟩) (by simp) (.slice B2 d.lost.length k2)).trans e3)
      have HO := Lib.hid (And.intro hod o3)
      have ck3 := o3.1.cellAt k (by omega)
      rw [flat_str_get d.sec k (by omega)] at ck3
      have zk3 := o3.1.frozenAt k
      clear g0 g1' z0 z1 x0 x1 y0 y1 zk ck hod hg3 hb2 hbr2 e3 hx0 hx2
      have q0 := b3.cell 0
      have q1 := b3.cell 1
      have z0 := b3.frozen 0
      have z1 := b3.frozen 1
      have y0 := r3.cell 0
      have y1 := r3.cell 1
      have x0 := r3.frozen 0
      have x1 := r3.frozen 1
      simp at q0 q1 y0 y1
      have hpl : p < (lst s).length := by rw [length_lst, hs30]; have := HG.out.1; omega
      have bp := hbuf.cell p hpl
      have bz := hbuf.frozen p hpl
      have hcb := u8_hi ((lst s).getD p 0)
      have ne5 : ¬ (w.heap.size = gb) := by omega
      have ne6 : ¬ (gb = w.heap.size) := by omega
      have ne7 : ¬ (w.heap.size + 1 = gb) := by omega
      have ne8 : ¬ (gb = w.heap.size + 1) := by omega
      have ne9 : ¬ (g = gb) := by omega
      have ne10 : ¬ (gb = g) := by omega
      have hp30 : (p : Int) < 30 := by have := HG.out.1; omega
      have hp30' : p < 30 := by omega
      have hln : 30 = ((lst s).set p 0).length := by rw [List.length_set, length_lst, hs30]
      have HL := Lib.hid hln
      have HBF := Lib.hid hbuf
      have HR := Lib.hid r3
      clear hbuf b3 r3 o3 hln
      generalize hc0 : (lst s).getD p 0 = c0 at *
      have HC0 := Lib.hid hc0
      clear hc0
      go_wp2_with (refine wpList_frombytes (.tmp 53) 95 9 5 rfl rfl Tryz.underlying95 Tryz.underlying5 Tryz.underlying9 gb 30 cap _ (HBF.out.set p _ ?ha ?hb) ?hc rfl ?_)
      case ha => omega
      case hb => omega
      case hc => rw [List.length_set, length_lst, hs30]
      have hT : turnB s p b = bs ((lst s).set p (byte (((c0.toNat : Int) + (b : Int)) % 256))) := by
        unfold turnB; rw [← HC0.out, at_lst_eq]; rfl
      rw [← hT]
      have HT := Lib.hid hT
      clear hT
      have hts : (turnB s p b).size = 30 := by rw [turnB_size, hs30]
      have HTS := Lib.hid hts
      clear hts
      generalize hte : turnB s p b = T at *
      have HTE := Lib.hid hte
      clear hte
      have HB := Lib.hid ((((HR.out.far (p := ⟨gb, p, none⟩) ne7 (.int .u8 (((c0.toNat : Int) + (b : Int)) % 256))).far (p := ⟨g, k, none⟩) ne3 (.string T)).set 0 (.slice (some ⟨g, 0, none⟩) d.sec.length k1)).set 1 (.slice B2 d.lost.length k2))
      go_wp2_with fail
      refine bodyPost_ret (res_cell_tmp rfl rfl HB.out Tryz.underlying68 rfl (by kernel_rfl)) rfl ?_
      rw [HF.out, ← HS.out, HTE.out]
      refine ⟨some ⟨g, 0, none⟩, k1, B2, k2, ?_, ?_, ?_⟩
      · rw [List.length_set]; rfl
      · exact (((X3.out.setCell (by simp; omega) _).setCell (by simp; omega) _).setCell (by simp) _).setCell (by simp) _
      · have o4 := ((((HO.out.2.aside HO.out.1 (p := ⟨gb, p, none⟩) hgb (.int .u8 (((c0.toNat : Int) + (b : Int)) % 256))).setSec rfl (by decide) k T (by rw [HTS.out]; decide)).far (p := ⟨w.heap.size + 1, 0, none⟩) (by simp; omega) (.slice (some ⟨g, 0, none⟩) d.sec.length k1)).far (p := ⟨w.heap.size + 1, 1, none⟩) (by simp; omega) (.slice B2 d.lost.length k2)).base (base' := w.heap.size) (by omega)
        rw [List.length_set]
        exact o4
    · have hf := turn_range hc hg
      have hg' : place < 0 ∨ 30 ≤ place ∨ by_ < 0 ∨ 255 < by_ := by omega
      rw [hc]
      clear hc hg hn
      have hcs : (decide (place < 0) = true) ∨ (decide (place < 0) = false ∧ decide ((30 : Int) ≤ place) = true) ∨ (decide (place < 0) = false ∧ decide ((30 : Int) ≤ place) = false ∧ decide (by_ < 0) = true) ∨ (decide (place < 0) = false ∧ decide ((30 : Int) ≤ place) = false ∧ decide (by_ < 0) = false ∧ decide ((255 : Int) < by_) = true) := by
        simp only [decide_eq_true_eq, decide_eq_false_iff_not]; omega
      clear hg' hp hb
      rcases hcs with t1 | ⟨t1, t2⟩ | ⟨t1, t2, t3⟩ | ⟨t1, t2, t3, t4⟩
      · have HF := Lib.hid hf
        clear hf hr1
        have y0 := hbr1.cell 0
        have y1 := hbr1.cell 1
        have x0 := hbr1.frozen 0
        have x1 := hbr1.frozen 1
        simp at y0 y1
        have HB := Lib.hid ((hbr1.set 0 (.slice none 0 0)).set 1 (.slice none 0 0))

        go_wp2_with fail
        refine bodyPost_ret (res_cell_tmp rfl rfl HB.out Tryz.underlying68 rfl (by kernel_rfl)) rfl ?_
        rw [HF.out]
        refine ⟨none, 0, none, 0, rfl, (hx0.setCell (by simp) _).setCell (by simp) _, ?_⟩
        exact ⟨World.ownsRow_nil _ _ _ _, World.ownsRow_nil _ _ _ _, by simp, by simp, fun s hs => by cases hs⟩
      · have HF := Lib.hid hf
        clear hf hr1
        have y0 := hbr1.cell 0
        have y1 := hbr1.cell 1
        have x0 := hbr1.frozen 0
        have x1 := hbr1.frozen 1
        simp at y0 y1
        have HB := Lib.hid ((hbr1.set 0 (.slice none 0 0)).set 1 (.slice none 0 0))

        go_wp2_with fail
        refine bodyPost_ret (res_cell_tmp rfl rfl HB.out Tryz.underlying68 rfl (by kernel_rfl)) rfl ?_
        rw [HF.out]
        refine ⟨none, 0, none, 0, rfl, (hx0.setCell (by simp) _).setCell (by simp) _, ?_⟩
        exact ⟨World.ownsRow_nil _ _ _ _, World.ownsRow_nil _ _ _ _, by simp, by simp, fun s hs => by cases hs⟩
      · have HF := Lib.hid hf
        clear hf hr1
        have y0 := hbr1.cell 0
        have y1 := hbr1.cell 1
        have x0 := hbr1.frozen 0
        have x1 := hbr1.frozen 1
        simp at y0 y1
        have HB := Lib.hid ((hbr1.set 0 (.slice none 0 0)).set 1 (.slice none 0 0))

        go_wp2_with fail
        refine bodyPost_ret (res_cell_tmp rfl rfl HB.out Tryz.underlying68 rfl (by kernel_rfl)) rfl ?_
        rw [HF.out]
        refine ⟨none, 0, none, 0, rfl, (hx0.setCell (by simp) _).setCell (by simp) _, ?_⟩
        exact ⟨World.ownsRow_nil _ _ _ _, World.ownsRow_nil _ _ _ _, by simp, by simp, fun s hs => by cases hs⟩
      · have HF := Lib.hid hf
        clear hf hr1
        have y0 := hbr1.cell 0
        have y1 := hbr1.cell 1
        have x0 := hbr1.frozen 0
        have x1 := hbr1.frozen 1
        simp at y0 y1
        have HB := Lib.hid ((hbr1.set 0 (.slice none 0 0)).set 1 (.slice none 0 0))

        go_wp2_with fail
        refine bodyPost_ret (res_cell_tmp rfl rfl HB.out Tryz.underlying68 rfl (by kernel_rfl)) rfl ?_
        rw [HF.out]
        refine ⟨none, 0, none, 0, rfl, (hx0.setCell (by simp) _).setCell (by simp) _, ?_⟩
        exact ⟨World.ownsRow_nil _ _ _ _, World.ownsRow_nil _ _ _ _, by simp, by simp, fun s hs => by cases hs⟩
  · have hf := turn_bad (place := place) (by_ := by_) hc
    have hc' : (touchCode d n != 0) = true := by simpa using hc
    clear hc
    have HF := Lib.hid hf
    clear hf hr1
    have y0 := hbr1.cell 0
    have y1 := hbr1.cell 1
    have x0 := hbr1.frozen 0
    have x1 := hbr1.frozen 1
    simp at y0 y1
    have HB := Lib.hid ((hbr1.set 0 (.slice none 0 0)).set 1 (.slice none 0 0))

    generalize touchCode d n = t at *
    go_wp2_with fail
    refine bodyPost_ret (res_cell_tmp rfl rfl HB.out Tryz.underlying68 rfl (by kernel_rfl)) rfl ?_
    rw [HF.out]
    refine ⟨none, 0, none, 0, rfl, (hx0.setCell (by simp) _).setCell (by simp) _, ?_⟩
    exact ⟨World.ownsRow_nil _ _ _ _, World.ownsRow_nil _ _ _ _, by simp, by simp, fun s hs => by cases hs⟩

end Go.Proofs.YtgjijcgkmofaaaaGreatDoor
