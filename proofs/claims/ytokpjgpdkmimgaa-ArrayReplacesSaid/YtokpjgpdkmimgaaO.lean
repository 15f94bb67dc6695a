/-
  The laws' arguments, opened by their types: a device, an array, a catalog, lists of files. Conditions: none.
-/
import Derived.Test.YtokpjgpdkmimgaaRows
import Derived.Test.YtokpjgpdkmimgaaD
namespace Go.Proofs.Ytokpjgpdkmimgaa
set_option linter.unusedSimpArgs false
set_option linter.unusedVariables false
open Go.RowKit Go.ChangeShapes Go.WideShapes Go.ChangeAt Go.Deep
theorem len1 {α : Type} {l : List α} (h : l.length = 1) : ∃ a, l = [a] := by
  match l, h with
  | [a], _ => exact ⟨a, rfl⟩
theorem len2 {α : Type} {l : List α} (h : l.length = 2) : ∃ a b, l = [a, b] := by
  match l, h with
  | [a, b], _ => exact ⟨a, b, rfl⟩
theorem len4 {α : Type} {l : List α} (h : l.length = 4) : ∃ a b c d, l = [a, b, c, d] := by
  match l, h with
  | [a, b, c, d], _ => exact ⟨a, b, c, d, rfl⟩
section
variable {H : Type} {enc : TypeId × Value → H} {w : World} {spare : Nat → Bool}

theorem opensStrs : Opens H enc Try.prog w spare 51 (fun w cs (l : List ByteArray) => ∃ v, cs = [v] ∧ SlR 1 16 RStr w v l) :=
  opens_slice Try.underlying51 (by kernel_rfl) (by decide) (by kernel_rfl) (opens_string Try.underlying9)

theorem opensBools : Opens H enc Try.prog w spare 52 (fun w cs (l : List Bool) => ∃ v, cs = [v] ∧ SlR 1 1 RBool w v l) :=
  opens_slice Try.underlying52 (by kernel_rfl) (by decide) (by kernel_rfl) (opens_bool Try.underlying4)

theorem opensDev : Opens H enc Try.prog w spare 54 RDev := by
  intro fuel cs x h hz
  obtain ⟨hlen, hf⟩ := opens_fields Try.underlying54 h hz
  rw [show Try.prog.cellsOf 54 = 2 by kernel_rfl] at hlen
  obtain ⟨n0, y0, t0', z0'⟩ := hf 0 _ rfl
  have t0 : DataW.trod enc Try.prog w 0 spare true n0 51 ((cs.drop 0).take (Try.prog.cellsOf 51)) = some y0 := t0'
  have z0 : ∀ k ∈ y0.1.weights Try.prog 51, k ≤ reachBytes := z0'
  clear t0' z0'
  rw [show Try.prog.cellsOf 51 = 1 by kernel_rfl] at t0
  obtain ⟨n1, y1, t1', z1'⟩ := hf 1 _ rfl
  have t1 : DataW.trod enc Try.prog w 0 spare true n1 52 ((cs.drop 1).take (Try.prog.cellsOf 52)) = some y1 := t1'
  have z1 : ∀ k ∈ y1.1.weights Try.prog 52, k ≤ reachBytes := z1'
  clear t1' z1'
  rw [show Try.prog.cellsOf 52 = 1 by kernel_rfl] at t1
  obtain ⟨u0, u1, rfl⟩ := len2 hlen
  clear hf h hz
  obtain ⟨a0, r0⟩ := opensStrs n0 _ y0 t0 z0
  obtain ⟨a1, r1⟩ := opensBools n1 _ y1 t1 z1
  obtain ⟨w0, e0, r0⟩ := r0
  obtain ⟨w1, e1, r1⟩ := r1
  refine ⟨⟨a0, a1⟩, w0, w1, ?_, r0, r1⟩
  have e0' : u0 = w0 := by simpa using e0
  have e1' : u1 = w1 := by simpa using e1
  rw [e0', e1']

theorem opensDevs : Opens H enc Try.prog w spare 43 (fun w cs (l : List Dev) => ∃ v, cs = [v] ∧ SlR 2 48 RDev w v l) :=
  opens_slice Try.underlying43 (by kernel_rfl) (by decide) (by kernel_rfl) opensDev

theorem opensArr : Opens H enc Try.prog w spare 45 RArr := by
  intro fuel cs x h hz
  obtain ⟨hlen, hf⟩ := opens_fields Try.underlying45 h hz
  rw [show Try.prog.cellsOf 45 = 1 by kernel_rfl] at hlen
  obtain ⟨n0, y0, t0', z0'⟩ := hf 0 _ rfl
  have t0 : DataW.trod enc Try.prog w 0 spare true n0 43 ((cs.drop 0).take (Try.prog.cellsOf 43)) = some y0 := t0'
  have z0 : ∀ k ∈ y0.1.weights Try.prog 43, k ≤ reachBytes := z0'
  clear t0' z0'
  rw [show Try.prog.cellsOf 43 = 1 by kernel_rfl] at t0
  obtain ⟨u0, rfl⟩ := len1 hlen
  clear hf h hz
  obtain ⟨a0, r0⟩ := opensDevs n0 _ y0 t0 z0
  obtain ⟨w0, e0, r0⟩ := r0
  exact ⟨a0, w0, by simpa using e0, r0⟩

theorem opensBlk : Opens H enc Try.prog w spare 69 RBlk := by
  intro fuel cs x h hz
  obtain ⟨hlen, hf⟩ := opens_fields Try.underlying69 h hz
  rw [show Try.prog.cellsOf 69 = 2 by kernel_rfl] at hlen
  obtain ⟨n0, y0, t0', z0'⟩ := hf 0 _ rfl
  have t0 : DataW.trod enc Try.prog w 0 spare true n0 3 ((cs.drop 0).take (Try.prog.cellsOf 3)) = some y0 := t0'
  have z0 : ∀ k ∈ y0.1.weights Try.prog 3, k ≤ reachBytes := z0'
  clear t0' z0'
  rw [show Try.prog.cellsOf 3 = 1 by kernel_rfl] at t0
  obtain ⟨n1, y1, t1', z1'⟩ := hf 1 _ rfl
  have t1 : DataW.trod enc Try.prog w 0 spare true n1 3 ((cs.drop 1).take (Try.prog.cellsOf 3)) = some y1 := t1'
  have z1 : ∀ k ∈ y1.1.weights Try.prog 3, k ≤ reachBytes := z1'
  clear t1' z1'
  rw [show Try.prog.cellsOf 3 = 1 by kernel_rfl] at t1
  obtain ⟨u0, u1, rfl⟩ := len2 hlen
  clear hf h hz
  obtain ⟨a0, r0⟩ := (opens_int Try.underlying3) n0 _ y0 t0 z0
  obtain ⟨a1, r1⟩ := (opens_int Try.underlying3) n1 _ y1 t1 z1
  obtain ⟨e0, r0⟩ := r0
  obtain ⟨e1, r1⟩ := r1
  refine ⟨⟨a0, a1⟩, ?_, r0, r1⟩
  have e0' : u0 = .int .i64 a0 := by simpa using e0
  have e1' : u1 = .int .i64 a1 := by simpa using e1
  rw [e0', e1']

theorem opensEnt : Opens H enc Try.prog w spare 38 REnt := by
  intro fuel cs x h hz
  obtain ⟨hlen, hf⟩ := opens_fields Try.underlying38 h hz
  rw [show Try.prog.cellsOf 38 = 4 by kernel_rfl] at hlen
  obtain ⟨n0, y0, t0', z0'⟩ := hf 0 _ rfl
  have t0 : DataW.trod enc Try.prog w 0 spare true n0 9 ((cs.drop 0).take (Try.prog.cellsOf 9)) = some y0 := t0'
  have z0 : ∀ k ∈ y0.1.weights Try.prog 9, k ≤ reachBytes := z0'
  clear t0' z0'
  rw [show Try.prog.cellsOf 9 = 1 by kernel_rfl] at t0
  obtain ⟨n1, y1, t1', z1'⟩ := hf 1 _ rfl
  have t1 : DataW.trod enc Try.prog w 0 spare true n1 3 ((cs.drop 1).take (Try.prog.cellsOf 3)) = some y1 := t1'
  have z1 : ∀ k ∈ y1.1.weights Try.prog 3, k ≤ reachBytes := z1'
  clear t1' z1'
  rw [show Try.prog.cellsOf 3 = 1 by kernel_rfl] at t1
  obtain ⟨n2, y2, t2', z2'⟩ := hf 2 _ rfl
  have t2 : DataW.trod enc Try.prog w 0 spare true n2 3 ((cs.drop 2).take (Try.prog.cellsOf 3)) = some y2 := t2'
  have z2 : ∀ k ∈ y2.1.weights Try.prog 3, k ≤ reachBytes := z2'
  clear t2' z2'
  rw [show Try.prog.cellsOf 3 = 1 by kernel_rfl] at t2
  obtain ⟨n3, y3, t3', z3'⟩ := hf 3 _ rfl
  have t3 : DataW.trod enc Try.prog w 0 spare true n3 3 ((cs.drop 3).take (Try.prog.cellsOf 3)) = some y3 := t3'
  have z3 : ∀ k ∈ y3.1.weights Try.prog 3, k ≤ reachBytes := z3'
  clear t3' z3'
  rw [show Try.prog.cellsOf 3 = 1 by kernel_rfl] at t3
  obtain ⟨u0, u1, u2, u3, rfl⟩ := len4 hlen
  clear hf h hz
  obtain ⟨a0, r0⟩ := (opens_string Try.underlying9) n0 _ y0 t0 z0
  obtain ⟨a1, r1⟩ := (opens_int Try.underlying3) n1 _ y1 t1 z1
  obtain ⟨a2, r2⟩ := (opens_int Try.underlying3) n2 _ y2 t2 z2
  obtain ⟨a3, r3⟩ := (opens_int Try.underlying3) n3 _ y3 t3 z3
  obtain ⟨e0, r0⟩ := r0
  obtain ⟨e1, r1⟩ := r1
  obtain ⟨e2, r2⟩ := r2
  obtain ⟨e3, r3⟩ := r3
  refine ⟨⟨a0, a1, a2, a3⟩, ?_, r0, r1, r2, r3⟩
  have e0' : u0 = .string a0 := by simpa using e0
  have e1' : u1 = .int .i64 a1 := by simpa using e1
  have e2' : u2 = .int .i64 a2 := by simpa using e2
  have e3' : u3 = .int .i64 a3 := by simpa using e3
  rw [e0', e1', e2', e3']

theorem opensBlks : Opens H enc Try.prog w spare 30 (fun w cs (l : List Blk) => ∃ v, cs = [v] ∧ SlR 2 16 RBlk w v l) :=
  opens_slice Try.underlying30 (by kernel_rfl) (by decide) (by kernel_rfl) opensBlk

theorem opensEnts : Opens H enc Try.prog w spare 31 (fun w cs (l : List Ent) => ∃ v, cs = [v] ∧ SlR 4 40 REnt w v l) :=
  opens_slice Try.underlying31 (by kernel_rfl) (by decide) (by kernel_rfl) opensEnt

theorem opensCat : Opens H enc Try.prog w spare 33 RCat := by
  intro fuel cs x h hz
  obtain ⟨hlen, hf⟩ := opens_fields Try.underlying33 h hz
  rw [show Try.prog.cellsOf 33 = 2 by kernel_rfl] at hlen
  obtain ⟨n0, y0, t0', z0'⟩ := hf 0 _ rfl
  have t0 : DataW.trod enc Try.prog w 0 spare true n0 30 ((cs.drop 0).take (Try.prog.cellsOf 30)) = some y0 := t0'
  have z0 : ∀ k ∈ y0.1.weights Try.prog 30, k ≤ reachBytes := z0'
  clear t0' z0'
  rw [show Try.prog.cellsOf 30 = 1 by kernel_rfl] at t0
  obtain ⟨n1, y1, t1', z1'⟩ := hf 1 _ rfl
  have t1 : DataW.trod enc Try.prog w 0 spare true n1 31 ((cs.drop 1).take (Try.prog.cellsOf 31)) = some y1 := t1'
  have z1 : ∀ k ∈ y1.1.weights Try.prog 31, k ≤ reachBytes := z1'
  clear t1' z1'
  rw [show Try.prog.cellsOf 31 = 1 by kernel_rfl] at t1
  obtain ⟨u0, u1, rfl⟩ := len2 hlen
  clear hf h hz
  obtain ⟨a0, r0⟩ := opensBlks n0 _ y0 t0 z0
  obtain ⟨a1, r1⟩ := opensEnts n1 _ y1 t1 z1
  obtain ⟨w0, e0, r0⟩ := r0
  obtain ⟨w1, e1, r1⟩ := r1
  refine ⟨⟨a0, a1⟩, w0, w1, ?_, r0, r1⟩
  have e0' : u0 = w0 := by simpa using e0
  have e1' : u1 = w1 := by simpa using e1
  rw [e0', e1']

end
end Go.Proofs.Ytokpjgpdkmimgaa
