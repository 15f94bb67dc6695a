/-
  press.Pack and the document's PackedOf: bytes, with what stands there already made short; the law PressPacks. Conditions: the text is no longer than a text may be.
-/
import Derived.Test.YtokpjgpdkmimgaaPPack
import Derived.Test.YtokpjgpdkmimgaaWXor
import Derived.BigQuiet
namespace Go.Proofs.Ytokpjgpdkmimgaa
set_option linter.unusedSimpArgs false
set_option linter.unusedVariables false
open Go.RowKit

theorem alike_go {s : ByteArray} {k i n : Nat} (h1 : n < 131) (h2 : i + n < s.size) (h3 : at_ s (k + n) = at_ s (i + n)) : alikeF s k i n = alikeF s k i (n + 1) := by
  rw [alikeF, if_pos ⟨h1, h2, h3⟩]
theorem alike_stop {s : ByteArray} {k i n : Nat} (h : ¬ (n < 131 ∧ i + n < s.size ∧ at_ s (k + n) = at_ s (i + n))) : alikeF s k i n = n := by
  rw [alikeF, if_neg h]
theorem piece_more {s : ByteArray} {i d best back : Nat} (h : d ≤ 255 ∧ d ≤ i) (h2 : best < alikeF s (i - d) i 0) : pieceF s i d best back = pieceF s i (d + 1) (alikeF s (i - d) i 0) d := by
  rw [pieceF, if_pos h, if_pos h2]
theorem piece_less {s : ByteArray} {i d best back : Nat} (h : d ≤ 255 ∧ d ≤ i) (h2 : ¬ best < alikeF s (i - d) i 0) : pieceF s i d best back = pieceF s i (d + 1) best back := by
  rw [pieceF, if_pos h, if_neg h2]
theorem piece_end {s : ByteArray} {i d best back : Nat} (h : ¬ (d ≤ 255 ∧ d ≤ i)) : pieceF s i d best back = (best, back) := by
  rw [pieceF, if_neg h]
set_option maxRecDepth 100000 in
set_option maxHeartbeats 8000000 in
theorem piece_any (s : ByteArray) (i : Nat) (w : World) (hi : i < s.size) (hs : s.size ≤ 600) :
    Calls Try.prog 32 #[.string s, .int .i64 i] w fun e w' => e = .returned (.tuple #[.int .i64 (pieceF s i 1 0 0).1, .int .i64 (pieceF s i 1 0 0).2]) ∧ Ext w w' := by
  have hs' : (s.size : Int) ≤ 600 := by omega
  have hii : (i : Int) < 600 := by omega
  go_enter Try.func32, Try.ntmps32
  go_wp2_with fail
  go_loopw [6, 7, 8] (fun b f k wr => ∃ (d best back : Nat), k = .int .i64 ((i : Int) - (d : Int)) ∧ b = .int .i64 best ∧ f = .int .i64 back ∧ 1 ≤ d ∧ d ≤ 256 ∧ d ≤ i + 1 ∧ best ≤ 131 ∧ back ≤ 256 ∧ Ext w wr ∧ pieceF s i d best back = pieceF s i 1 0 0) (fun _ _ k _ => ((intOf k) + 1).toNat)
  case atStart => exact ⟨1, 0, 0, by go_num, rfl, rfl, by omega, by omega, by omega, by omega, by omega, Ext.refl _, rfl⟩
  case round =>
    obtain ⟨d, best, back, rfl, rfl, rfl, hd1, hd2, hd3, hb1, hb2, hx, heq⟩ := hrel
    have HEQ := Lib.hid heq
    clear heq
    by_cases hc : d ≤ 255 ∧ d ≤ i
    · have t1 : decide ((0 : Int) ≤ (i : Int) - (d : Int)) = true := by simp; omega
      have hsb : IntKind.i64.wrap ((i : Int) - ((i : Int) - (d : Int))) = (d : Int) := by rw [IntKind.wrap_i64]; omega
      have hsb2 : (i : Int) - ((i : Int) - (d : Int)) = (d : Int) := by omega
      have t2 : decide ((d : Int) ≤ 255) = true := by simp; omega
      obtain ⟨k, hk⟩ : ∃ k : Nat, k = i - d := ⟨_, rfl⟩
      have hki : (i : Int) - (d : Int) = (k : Int) := by omega
      have hklt : k < i := by omega
      have HK := Lib.hid (And.intro hk (And.intro hki hc))
      have hdk : (i : Int) - (k : Int) = (d : Int) := by omega
      have hdkw : IntKind.i64.wrap ((i : Int) - (k : Int)) = (d : Int) := by rw [IntKind.wrap_i64]; omega
      rw [hki] at *
      have t1' : decide ((0 : Int) ≤ (k : Int)) = true := by simp
      have t2' : decide ((i : Int) - (k : Int) ≤ 255) = true := by rw [hdk]; simpa using t2
      have hd255 : d ≤ 255 := hc.1
      have hdi : d ≤ i := hc.2
      clear hsb hsb2 hki hk hc t1
      go_wp2_with fail
      go_loopw [9] (fun n wq => ∃ j : Nat, n = .int .i64 j ∧ j ≤ 131 ∧ Ext wr wq ∧ alikeF s k i j = alikeF s k i 0) (fun n _ => 131 - (intOf n).toNat)
      case atStart => exact ⟨0, rfl, by omega, Ext.refl _, rfl⟩
      case round =>
        obtain ⟨j, rfl, hj, hxq, heqj⟩ := hrel
        have HEJ := Lib.hid heqj
        clear heqj
        by_cases h2 : i + j < s.size
        · have t3 : decide ((i : Int) + (j : Int) < (s.size : Int)) = true := by simp; omega
          by_cases h1 : j < 131
          · have t4 : decide ((j : Int) < 131) = true := by simp; omega
            have hi2 : i + j < s.size := h2
            have hk2 : k + j < s.size := by omega
            have hi2' : (i : Int) + (j : Int) < (s.size : Int) := by omega
            have hk2' : (k : Int) + (j : Int) < (s.size : Int) := by omega
            have hkt : ((k : Int) + (j : Int)).toNat = k + j := by omega
            have hit : ((i : Int) + (j : Int)).toNat = i + j := by omega
            have hz1 : (0 : Int) ≤ (k : Int) + (j : Int) := by omega
            have hz2 : (0 : Int) ≤ (i : Int) + (j : Int) := by omega
            by_cases h3 : at_ s (k + j) = at_ s (i + j)
            · have HGO := Lib.hid (alike_go h1 h2 h3)
              have hb : ((s[k + j].toNat : Int) == (s[i + j].toNat : Int)) = true := by
                rw [at_eq s _ hk2, at_eq s _ hi2] at h3
                rw [h3]; simp
              clear h3 h2
              go_wp2_with fail
              go_quiet (fail)
              go_wp2_with fail
              go_roundw
              case rel => exact ⟨j + 1, by go_num, by omega, hxq.drewN _, by rw [← HGO.out, HEJ.out]⟩
              case measure => simp [intOf]; omega
            · have HST := Lib.hid (show alikeF s k i j = j from alike_stop (fun h => h3 h.2.2))
              have hb : ((s[k + j].toNat : Int) == (s[i + j].toNat : Int)) = false := by
                rw [at_eq s _ hk2, at_eq s _ hi2] at h3
                have : ¬ (s[k + j].toNat : Int) = (s[i + j].toNat : Int) := fun e => h3 (UInt8.toNat_inj.1 (by omega))
                simpa using this
              clear h3 h2
              have HAL := Lib.hid (show alikeF s k i 0 = j by rw [← HEJ.out, HST.out])
              by_cases hbt : best < j
              · have HNX := Lib.hid (show pieceF s i (d + 1) j d = pieceF s i 1 0 0 by rw [← HEQ.out, piece_more HK.out.2.2 (by rw [← HK.out.1, HAL.out]; exact hbt), ← HK.out.1, HAL.out])
                go_wp2_with fail
                go_quiet (fail)
                go_wp2_with fail
                go_roundw
                case rel => exact ⟨d + 1, j, d, by have := HK.out.2.1; go_num, rfl, by first | rfl | go_num, by omega, by omega, by omega, by omega, by omega, (hx.trans hxq).drewN _, HNX.out⟩
                case measure => (simp [intOf]; try omega)
              · have HNX := Lib.hid (show pieceF s i (d + 1) best back = pieceF s i 1 0 0 by rw [← HEQ.out, piece_less HK.out.2.2 (by rw [← HK.out.1, HAL.out]; exact hbt)])
                go_wp2_with fail
                go_quiet (fail)
                go_wp2_with fail
                go_roundw
                case rel => exact ⟨d + 1, best, back, by have := HK.out.2.1; go_num, rfl, rfl, by omega, by omega, by omega, by omega, by omega, (hx.trans hxq).drewN _, HNX.out⟩
                case measure => (simp [intOf]; try omega)
          · have HST := Lib.hid (show alikeF s k i j = j from alike_stop (fun h => h1 h.1))
            have t4 : decide ((j : Int) < 131) = false := by simp; omega
            clear h1 h2
            have HAL := Lib.hid (show alikeF s k i 0 = j by rw [← HEJ.out, HST.out])
            by_cases hbt : best < j
            · have HNX := Lib.hid (show pieceF s i (d + 1) j d = pieceF s i 1 0 0 by rw [← HEQ.out, piece_more HK.out.2.2 (by rw [← HK.out.1, HAL.out]; exact hbt), ← HK.out.1, HAL.out])
              go_wp2_with fail
              go_quiet (fail)
              go_wp2_with fail
              go_roundw
              case rel => exact ⟨d + 1, j, d, by have := HK.out.2.1; go_num, rfl, by first | rfl | go_num, by omega, by omega, by omega, by omega, by omega, (hx.trans hxq).drewN _, HNX.out⟩
              case measure => (simp [intOf]; try omega)
            · have HNX := Lib.hid (show pieceF s i (d + 1) best back = pieceF s i 1 0 0 by rw [← HEQ.out, piece_less HK.out.2.2 (by rw [← HK.out.1, HAL.out]; exact hbt)])
              go_wp2_with fail
              go_quiet (fail)
              go_wp2_with fail
              go_roundw
              case rel => exact ⟨d + 1, best, back, by have := HK.out.2.1; go_num, rfl, rfl, by omega, by omega, by omega, by omega, by omega, (hx.trans hxq).drewN _, HNX.out⟩
              case measure => (simp [intOf]; try omega)
        · have HST := Lib.hid (show alikeF s k i j = j from alike_stop (fun h => h2 h.2.1))
          have t3 : decide ((i : Int) + (j : Int) < (s.size : Int)) = false := by simp; omega
          clear h2
          have HAL := Lib.hid (show alikeF s k i 0 = j by rw [← HEJ.out, HST.out])
          by_cases hbt : best < j
          · have HNX := Lib.hid (show pieceF s i (d + 1) j d = pieceF s i 1 0 0 by rw [← HEQ.out, piece_more HK.out.2.2 (by rw [← HK.out.1, HAL.out]; exact hbt), ← HK.out.1, HAL.out])
            go_wp2_with fail
            go_quiet (fail)
            go_wp2_with fail
            go_roundw
            case rel => exact ⟨d + 1, j, d, by have := HK.out.2.1; go_num, rfl, by first | rfl | go_num, by omega, by omega, by omega, by omega, by omega, (hx.trans hxq).drewN _, HNX.out⟩
            case measure => (simp [intOf]; try omega)
          · have HNX := Lib.hid (show pieceF s i (d + 1) best back = pieceF s i 1 0 0 by rw [← HEQ.out, piece_less HK.out.2.2 (by rw [← HK.out.1, HAL.out]; exact hbt)])
            go_wp2_with fail
            go_quiet (fail)
            go_wp2_with fail
            go_roundw
            case rel => exact ⟨d + 1, best, back, by have := HK.out.2.1; go_num, rfl, rfl, by omega, by omega, by omega, by omega, by omega, (hx.trans hxq).drewN _, HNX.out⟩
            case measure => (simp [intOf]; try omega)
    · have HPE := Lib.hid (show (best, back) = pieceF s i 1 0 0 by rw [← HEQ.out, piece_end hc])
      have hcs : ¬ d ≤ i ∨ (d ≤ i ∧ ¬ d ≤ 255) := by omega
      have hsb : IntKind.i64.wrap ((i : Int) - ((i : Int) - (d : Int))) = (d : Int) := by rw [IntKind.wrap_i64]; omega
      clear hc HEQ
      rcases hcs with hA | ⟨hA, hB⟩
      · have t1 : decide ((0 : Int) ≤ (i : Int) - (d : Int)) = false := by simp; omega
        go_wp2_with fail
        go_ret2
        rw [← HPE.out]
        exact ⟨rfl, hx⟩
      · have t1 : decide ((0 : Int) ≤ (i : Int) - (d : Int)) = true := by simp; omega
        have hB' : ¬ (d : Int) ≤ 255 := by omega
        go_wp2_with fail
        go_ret2
        rw [← HPE.out]
        exact ⟨rfl, hx⟩
end Go.Proofs.Ytokpjgpdkmimgaa
