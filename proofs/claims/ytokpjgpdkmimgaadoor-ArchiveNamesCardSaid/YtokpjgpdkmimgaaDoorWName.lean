/-
  catalog.Name and the document's NameMay: both tell whether a text may be a name; the law CatalogNames. Conditions: the text is no longer than a text may be.
-/
import Derived.Test.YtokpjgpdkmimgaaDoorWContains
import Derived.Test.YtokpjgpdkmimgaaDoorWNum
namespace Go.Proofs.YtokpjgpdkmimgaaDoor
set_option linter.unusedSimpArgs false
set_option linter.unusedVariables false
open Go.RowKit

/-- A name. -/
def nameMay (s : ByteArray) : Bool := decide (1 ≤ s.size) && decide (s.size ≤ 8) && !((lst s).any badByte)

theorem bytes_read (w : World) (s : ByteArray) (e : TypeId) (cap : Nat) (fr : Nat × Nat) (hc : s.size ≤ cap) (hs : s.size ≤ 140737488355328) :
    SlR 1 1 RByte (w.drew.alloc (.cells (bytesRow s cap) e fr)) (.slice (some ⟨w.heap.size, 0, none⟩) s.size cap) (lst s) := by
  refine ⟨some ⟨w.heap.size, 0, none⟩, cap, by rw [length_lst], by rw [length_lst]; omega, by rw [length_lst]; exact hc, ?_⟩
  right
  refine ⟨w.heap.size, 0, rfl, fun i hi => ⟨[.int .u8 (lst s)[i].toNat], rfl, fun j hj => ?_, rfl⟩⟩
  have hj0 : j = 0 := by omega
  subst hj0
  have hi' : i < s.data.size := by rw [length_lst] at hi; exact hi
  rw [show (⟨w.heap.size, 0 + i * 1 + 0, none⟩ : Addr) = ⟨w.drew.heap.size, i, none⟩ from by simp, World.cell?_alloc_mark, bytesRow_at s cap i hi']
  rfl

set_option maxRecDepth 100000 in
set_option maxHeartbeats 400000 in
theorem name_any (s : ByteArray) (w : World) (hs : s.size ≤ 140737488355328) :
    Calls Tryd.prog 67 #[.string s] w fun e w' => e = .returned (.bool (nameMay s)) ∧ Ext w w' := by
  by_cases h1 : s.size = 0
  · have hm : nameMay s = false := by unfold nameMay; rw [decide_eq_false (by omega : ¬ 1 ≤ s.size)]; rfl
    have hl : s.toList = [] := by rw [toList_lst]; exact List.eq_nil_of_length_eq_zero (by rw [length_lst]; exact h1)
    have hl2 : (!s.toList.isEmpty) = false := by rw [hl]; rfl
    rw [hm]
    clear hm h1
    go_enter Tryd.func67, Tryd.ntmps67
    go_wp2
    go_ret
    exact ⟨rfl, Ext.refl _⟩
  · have hl : s.toList.isEmpty = false := by
      rw [toList_lst]
      cases h : lst s with
      | nil => exfalso; apply h1; rw [← length_lst, h]; rfl
      | cons a l => rfl
    have hl2 : (!s.toList.isEmpty) = true := by rw [hl]; rfl
    by_cases h2 : s.size ≤ 8
    · have hm : nameMay s = !((lst s).any badByte) := by
        unfold nameMay; rw [decide_eq_true (by omega : 1 ≤ s.size), decide_eq_true h2]; simp
      have h2' : decide ((s.size : Int) ≤ 8) = true := by simp; omega
      have HM := Lib.hid hm
      have hconv := fun W => run_bytes_of_string (P := Tryd.prog) W 9 34 5 s Tryd.underlying9 Tryd.underlying34 Tryd.underlying5
      clear hm h1
      go_enter Tryd.func67, Tryd.ntmps67
      go_wp2_with fail
      refine (contains_byte _ (lst s) _ (bytes_read w s _ _ _ (grownCap_ge _ _ _ _) hs)).mono ?_
      rintro e w1 ⟨rfl, rfl⟩
      clear hconv
      go_wp2
      go_ret
      exact ⟨ret_bool HM.out.symm, ((Ext.refl w).alloc _).drew⟩
    · have hm : nameMay s = false := by unfold nameMay; rw [decide_eq_false h2]; simp
      have h2' : decide ((s.size : Int) ≤ 8) = false := by simp; omega
      rw [hm]
      clear hm h1
      go_enter Tryd.func67, Tryd.ntmps67
      go_wp2
      go_ret
      exact ⟨rfl, Ext.refl _⟩

theorem badByte_in (c : UInt8) : badByte c = (!(inB (c.toNat : Int) 97 122) && !(inB (c.toNat : Int) 48 57)) := by
  unfold badByte inB
  rw [Bool.eq_iff_iff]
  simp

set_option maxRecDepth 100000 in
set_option maxHeartbeats 400000 in
theorem nameMay_any (s : ByteArray) (w : World) (hs : s.size ≤ 140737488355328) :
    Calls Tryd.prog 88 #[.string s] w fun e w' => e = .returned (.bool (nameMay s)) ∧ w = w' := by
  go_enter Tryd.func88, Tryd.ntmps88
  go_wp2
  go_loop [3] (fun i => ∃ k : Nat, i = .int .i64 k ∧ k ≤ s.size ∧ ((lst s).take k).any badByte = false) (fun i => s.size - (intOf i).toNat)
  case atStart => exact ⟨0, rfl, Nat.zero_le _, rfl⟩
  case round =>
    obtain ⟨k, rfl, hk, hno⟩ := hrel
    have HN := Lib.hid hno
    clear hno
    by_cases hlt : k < s.size
    · have hb := u8_hi s[k]
      have htk : ((lst s).take (k + 1)).any badByte = badByte s[k] := any_snoc s k hlt HN.out
      have hmem : badByte s[k] = true → (lst s).any badByte = true := any_mem s k hlt
      have hbad := badByte_in s[k]
      have HT := Lib.hid htk
      have HM := Lib.hid hmem
      have HB := Lib.hid hbad
      clear htk hmem hbad
      by_cases h1 : inB (s[k].toNat : Int) 97 122 = true
      · have g1 := inB_true h1
        have H1 := Lib.hid h1
        have G1 := Lib.hid g1
        clear h1 g1
        go_wp2_with fail
        refine (in_true _ _ _ _ G1.out.1 G1.out.2).mono ?_
        rintro e w1 ⟨rfl, rfl⟩
        go_wp2
        go_round
        case rel => exact ⟨k + 1, by go_num, by omega, by rw [HT.out, HB.out, H1.out]; rfl⟩
        case measure => simp [intOf]; omega
      · rw [Bool.not_eq_true] at h1
        have g1 := inB_false h1
        have H1 := Lib.hid h1
        have G1 := Lib.hid g1
        clear h1 g1
        by_cases h2 : inB (s[k].toNat : Int) 48 57 = true
        · have g2 := inB_true h2
          have H2 := Lib.hid h2
          have G2 := Lib.hid g2
          clear h2 g2
          go_wp2_with fail
          refine (in_false _ _ _ _ G1.out).mono ?_
          rintro e w1 ⟨rfl, rfl⟩
          go_wp2_with fail
          refine (in_true _ _ _ _ G2.out.1 G2.out.2).mono ?_
          rintro e w1 ⟨rfl, rfl⟩
          go_wp2
          go_round
          case rel => exact ⟨k + 1, by go_num, by omega, by rw [HT.out, HB.out, H1.out, H2.out]; rfl⟩
          case measure => simp [intOf]; omega
        · rw [Bool.not_eq_true] at h2
          have g2 := inB_false h2
          have H2 := Lib.hid h2
          have G2 := Lib.hid g2
          clear h2 g2
          go_wp2_with fail
          refine (in_false _ _ _ _ G1.out).mono ?_
          rintro e w1 ⟨rfl, rfl⟩
          go_wp2_with fail
          refine (in_false _ _ _ _ G2.out).mono ?_
          rintro e w1 ⟨rfl, rfl⟩
          go_wp2
          go_ret
          refine ⟨ret_bool ?_, rfl⟩
          unfold nameMay
          rw [HM.out (by rw [HB.out, H1.out, H2.out]; rfl)]
          simp
    · have hfin : ((lst s).take k).any badByte = (lst s).any badByte := by rw [take_ge s k (by omega)]
      have HF := Lib.hid hfin
      clear hfin
      have hin : inB (s.size : Int) 1 8 = (decide (1 ≤ s.size) && decide (s.size ≤ 8)) := by
        unfold inB; rw [Bool.eq_iff_iff]; simp; omega
      have HI := Lib.hid hin
      clear hin
      go_wp2_with fail
      refine (in_any _ _ _ _).mono ?_
      rintro e w1 ⟨rfl, rfl⟩
      go_wp2
      go_ret
      refine ⟨ret_bool ?_, rfl⟩
      unfold nameMay
      rw [← HF.out, HN.out]
      have := HI.out
      simp only [Bool.not_false, Bool.and_true]
      exact this

end Go.Proofs.YtokpjgpdkmimgaaDoor
