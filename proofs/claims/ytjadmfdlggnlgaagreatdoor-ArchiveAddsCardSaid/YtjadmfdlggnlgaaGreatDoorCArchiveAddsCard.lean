/-
  archive.Add answers what P10.3 says The given statement, out of the law's walk. Conditions: none beyond the statement's own.
-/
import Derived.Test.YtjadmfdlggnlgaaGreatDoorV23
import Derived.Test.YtjadmfdlggnlgaaGreatDoorTie
import Derived.Test.YtjadmfdlggnlgaaGreatDoorCards
import Derived.LaidMore
import Derived.Lay
import Derived.SevenTiedAt
namespace Go.Proofs.YtjadmfdlggnlgaaGreatDoor
open Go.RowKit Go.ChangeShapes Go.WideShapes Go.ChangeAt Go.Deep
set_option maxRecDepth 100000 in
set_option maxHeartbeats 8000000 in
theorem archiveAdds_lifted (os : Os) (started : os.Started) (H : Type) (enc : TypeId × Value → H) :
  ReturnsInHanded {} Tryz.checked os 3 .any (fun w args => (Rows.archiveAddsSpec.pre enc Tryz.prog Tryz.f3 Rows.archiveAddsRow.domain false w args ∧ laidMetH Tryz.prog Rows.archiveAddsRow.laid w) ∧ sizedMet enc Tryz.prog Tryz.f3 (OpenSpec.ofChange Rows.archiveAddsSpec) false w args)
   (Rows.archiveAddsSpec.post enc Tryz.prog Tryz.f3 false true false false) := by
 refine returnsInHanded_of_change_and (C := Tryz.checked) (X := fun w _ => laidMetH Tryz.prog Rows.archiveAddsRow.laid w) (fun _ _ _ hh h => h.of_heap hh) own started (by kernel_rfl) Tryz.func3
  (ChangeSpec.witness_shaped (enc := enc) (C := Tryz.checked) (os := os) (X := fun w _ => laidMetH Tryz.prog Rows.archiveAddsRow.laid w) false (World.laidAll Tryz.prog os Rows.archiveAddsRow.laid) #[.agg #[.slice none 0 0], .slice none 0 0] 8 (World.laidAll_os _ _ _)
   (World.shaped_of_ZipB (by kernel_rfl) (by kernel_rfl)) (by kernel_rfl) (by kernel_rfl) (by kernel_rfl)
   (by rw [MakeChecks.laidMetH_plain _ _ _ (by kernel_rfl)]; exact laidMet_laidAll _ (by kernel_rfl) (by kernel_rfl))) ?_
 intro W base args ds gs before hval0 hW _ hz0 _ _
 have hval : ∀ (j : Nat) t v, Tryz.f3.params[j]? = some t → args[j]? = some v → Value.okWide Tryz.prog W .any base t v := hval0
 have hz : (DataW.weightsEach Tryz.prog (Tryz.f3.params.toList ++ []) (ds ++ gs)).all (· ≤ reachBytes) = true := hz0
 clear hval0 hz0
 have hW' := hW
 obtain ⟨p, q, hA0, hV, hpq, hfz, hnd⟩ := hW
 have hA : DataW.TrodAll enc Tryz.prog W 0 (fun _ => true) true Tryz.f3.params.toList args.toList ds p := hA0
 obtain ⟨rfl, rfl⟩ := trodVars_none hV
 rw [Tryz.params3] at hA hval hz
 clear hA0 hV
 obtain ⟨v0, vs0, d0, ds0, p0, q0, hargs, rfl, rfl, h0, r0⟩ := trodAll_cons hA
 obtain ⟨v1, vs1, d1, ds1, p1, q1, rfl, rfl, rfl, h1, r1⟩ := trodAll_cons r0
 obtain ⟨rfl, rfl, rfl⟩ := trodAll_nil r1
 obtain rfl : args = #[v0, v1] := by cases args; simp_all
 clear hargs
 obtain ⟨cs0, a0, rfl, b0⟩ := param_struct opensArr Tryz.underlying24 (hval 0 24 v0 rfl rfl) h0 (weights_each hz 0 (t := 24) rfl rfl)
 obtain ⟨a1, b1⟩ := param_slice Tryz.underlying25 opensFiles (hval 1 25 v1 rfl rfl) h1 (weights_each hz 1 (t := 25) rfl rfl)
 refine (lawArchiveAdds_any cs0 a0 v1 a1 W b0 b1).mono fun e W' ⟨he, hx⟩ => ?_
 subst he
 exact ⟨_, rfl, law_post laidOut rfl (by kernel_rfl) rfl Tryz.underlying4 rfl hW' hx⟩
set_option maxHeartbeats 8000000 in
theorem archiveAdds_facts : joinedFacts Tryz.checked.prog 3 Tryz.f3 Rows.archiveAddsSpec Rows.archiveAddsRow = true :=
 joined_mk laidOut mapsRowed_ stopsHeard_ plainKeys_ stops_ knobs_ mayEnter_ liftsFinal_ make_
  (by as_aux_lemma => kernel_rfl) (by as_aux_lemma => kernel_rfl) (by as_aux_lemma => kernel_rfl) (by as_aux_lemma => kernel_rfl)
  (by as_aux_lemma => kernel_rfl) (by as_aux_lemma => kernel_rfl) (by as_aux_lemma => kernel_rfl) (by as_aux_lemma => kernel_rfl) (by as_aux_lemma => kernel_rfl) (by as_aux_lemma => kernel_rfl) (by as_aux_lemma => kernel_rfl) rfl rfl (by as_aux_lemma => kernel_rfl) (by as_aux_lemma => kernel_rfl) (by as_aux_lemma => kernel_rfl)
theorem archiveAdds_holds : Rows.ArchiveAddsSaid :=
 OpenClaim.holds_of_wide 3 Tryz.f3 rfl rfl rfl rfl rfl rfl rfl ⟨rfl, rfl, rfl, rfl, rfl⟩ rfl rfl rfl rfl rfl (by as_aux_lemma => kernel_rfl) Tryz.func3 archiveAdds_facts
  (of_decide_eq_true (by kernel_rfl)) (by unfold Func.isWrapper; first | (rw [if_pos (by decide +kernel)]; kernel_rfl) | (rw [if_neg (by decide +kernel)]; exact ⟨rfl, rfl⟩))
  (fun os started H enc _ => archiveAdds_lifted os started H enc)
theorem archiveAdds_card : Rows.ArchiveAddsCardSaid :=
 Claim7.holds_tied_plain_at .later [] [.data, .pinned] true (true, "799c68e937588680ed98f62b9b26bb30e59ddf9e4fe4854cc2f9cb87152c3a1a") false
  archiveAdds_holds (fun _ h => by cases h) (by kernel_rfl) (fun _ h => by cases h) archiveAdds_row_tie rfl ⟨rfl, rfl⟩ (by kernel_rfl) rfl
  (fun f fn hf hfn => by
   obtain rfl : f = 3 := Option.some.inj ((show Tryz.prog.funcNamed "arras/arraslaw.ArchiveAdds" = some 3 by kernel_rfl).symm.trans hf) |>.symm
   obtain rfl : fn = Tryz.f3 := (Option.some.inj (Tryz.func3.symm.trans hfn)).symm
   exact ⟨by kernel_rfl, fun j t ht => by
    rw [Tryz.params3] at ht
    have hm : t ∈ [24, 25] := by simpa using Array.mem_of_getElem? ht
    have hall : ([24, 25].all fun u => !Tryz.prog.wantsStandIn u) = true := by kernel_rfl
    exact (show Tryz.prog.wantsStandIn t = false by simpa using List.all_eq_true.1 hall t hm)⟩)
  (by kernel_rfl)
end Go.Proofs.YtjadmfdlggnlgaaGreatDoor
