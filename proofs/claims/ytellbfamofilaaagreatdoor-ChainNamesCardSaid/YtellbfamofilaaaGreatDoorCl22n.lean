/- ChainNames returns true at every input, and every argument reads as it did: the tied card; no condition. -/
import Derived.Test.YtellbfamofilaaaGreatDoorRows
import Derived.Test.YtellbfamofilaaaGreatDoorCards
import Derived.Test.YtellbfamofilaaaGreatDoorTie
import Derived.Test.YtellbfamofilaaaGreatDoorLaw22n
import Derived.Test.YtellbfamofilaaaGreatDoorLaid15
import Derived.Test.YtellbfamofilaaaGreatDoorMO
import Derived.WalkKit
import Derived.ProofKit
import Derived.LaidMore
import Derived.OpenShut
import Derived.Stop.Joined
import Derived.SevenTiedAt
import Derived.Lay
import Derived.ShutString
import Derived.ChangeOld
import Derived.Below
namespace Go.Proofs.YtellbfamofilaaaGreatDoor
open Go.ChangeShapes Go.WideShapes Go.ChangeAt Go.RowKit
open Go.ChangeMaps (open_string shut_string)
set_option linter.unusedVariables false
set_option linter.unusedSimpArgs false

theorem cnames_out : laidOutB Tryz.prog = true := by kernel_rfl
theorem cnames_own : ownKnob Tryz.prog.godebug = none := by kernel_rfl
set_option maxRecDepth 100000 in
theorem lifted_cnames (os : Os) (started : os.Started) (H : Type) (enc : TypeId × Value → H) :
    ReturnsInHanded {} Tryz.checked os 6 .any (fun w args => (Rows.chainNamesSpec.pre enc Tryz.prog Tryz.f6 Rows.chainNamesRow.domain false w args ∧ laidMetH Tryz.prog laid5 w) ∧ sizedMet enc Tryz.prog Tryz.f6 (OpenSpec.ofChange Rows.chainNamesSpec) false w args)
      (Rows.chainNamesSpec.post enc Tryz.prog Tryz.f6 false true false false) := by
  refine returnsInHanded_of_change_and (C := Tryz.checked) (X := fun w _ => laidMetH Tryz.prog laid5 w) (fun _ _ _ hh h => h.of_heap hh) cnames_own started (by kernel_rfl) Tryz.func6
    (ChangeSpec.witness_shaped (enc := enc) (C := Tryz.checked) (os := os) (X := fun w _ => laidMetH Tryz.prog laid5 w) false (World.laidAll Tryz.prog os laid5) #[.slice none 0 0] 8 (World.laidAll_os _ _ _)
      (World.shaped_of_ZipB (by kernel_rfl) (by kernel_rfl)) (by kernel_rfl) (by kernel_rfl) (by kernel_rfl)
      (by rw [MakeChecks.laidMetH_plain _ _ _ (by kernel_rfl)]; exact laidMet_laidAll _ (by kernel_rfl) (by kernel_rfl))) ?_
  intro W base args ds gs before hval0 hW hcnd _ hL _
  have hval : ∀ (j : Nat) t v, Tryz.f6.params[j]? = some t → args[j]? = some v → Value.okWide Tryz.prog W .any base t v := hval0
  have hW' := hW
  obtain ⟨p, q, hA0, hV, rfl, hfz, hnd⟩ := hW
  have hA : DataW.TrodAll enc Tryz.prog W 0 (fun _ => true) true Tryz.f6.params.toList args.toList ds p := hA0
  rw [Tryz.params6] at hA hval
  obtain ⟨v0, vs0, d0, ds0, p0, q0, hargs, rfl, rfl, h0, r0⟩ := trodAll_cons hA
  obtain ⟨rfl, rfl, rfl⟩ := trodAll_nil r0
  obtain rfl : args = #[v0] := by cases args; simp_all
  obtain ⟨rfl, rfl⟩ := trodVars_none hV
  have k0 := h0
  have lt0 : ∀ x ∈ p0, x.block < W.heap.size := by obtain ⟨m, hm⟩ := k0; exact DataW.trod_lt m _ _ _ hm
  obtain ⟨a0, c0, l0, rfl, hb0⟩ := open_acts22 (hval 0 51 v0 rfl rfl) h0
  have hT := tabs5_of_laid hL
  clear hA0 hval0
  simp only [List.append_nil] at hW'
  refine (walk_cnamesW W hT a0 c0 l0 hb0).mono fun e W' ⟨he, hfr⟩ => ?_
  subst he
  have bel : Below W.heap.size W W' := hfr.below (Nat.le_refl _) (fun k hk => by simp at hk)
  exact ⟨_, rfl, _, _, _, [], _, [], hW', trodAll_mk1 (shut_bool Tryz.underlying4 _), (trodAll_cons_mk (Below.trod cnames_out (by kernel_rfl) (of_decide_eq_true (by kernel_rfl)) k0 bel lt0) trodAll_mk0), rfl, bel.frame _, fun h => by cases h⟩

theorem cnames_j0 : (Rows.chainNamesRow.wf (OpenSpec.ofChange Rows.chainNamesSpec)) = true := by kernel_rfl
theorem cnames_j1 : (laidOutB Tryz.prog) = true := by kernel_rfl
theorem cnames_j2 : (mapsRowed Tryz.prog) = true := by kernel_rfl
theorem cnames_j3 : (Tryz.f6.params.all (Tryz.prog.readableRec ·)) = true := by kernel_rfl
theorem cnames_j4 : (namedTie Tryz.prog Rows.chainNamesRow.named Rows.chainNamesSpec.vars) = true := by kernel_rfl
theorem cnames_j5 : ((Rows.chainNamesRow.stops == [])) = true := by kernel_rfl
theorem cnames_j6 : ((Tryz.prog.stops == [])) = true := by kernel_rfl
theorem cnames_j7 : ((Rows.chainNamesRow.knobs == [])) = true := by kernel_rfl
theorem cnames_j8 : ((Tryz.prog.stopKnobs == [])) = true := by kernel_rfl
theorem cnames_j9 : ((Rows.chainNamesRow.inPlace == Tryz.prog.inPlace 6)) = true := by kernel_rfl
theorem cnames_j10 : ((Rows.chainNamesRow.unfollowed == Tryz.prog.unfollowed 6)) = true := by kernel_rfl
theorem cnames_j11 : ((Rows.chainNamesRow.recurses == Tryz.prog.recurses 6)) = true := by kernel_rfl
theorem cnames_j12 : ((Rows.chainNamesRow.named == Tryz.prog.varsNamed 6)) = true := by kernel_rfl
theorem cnames_j13 : ((Rows.chainNamesRow.maps == (Tryz.f6.params.toList ++ Rows.chainNamesSpec.plain.varTypes Tryz.prog).any (Tryz.prog.mapsRec ·))) = true := by kernel_rfl
theorem cnames_j14 : ((Rows.chainNamesRow.ifaces == (Tryz.f6.params.toList ++ Rows.chainNamesSpec.plain.varTypes Tryz.prog).any (Tryz.prog.ifacesRec ·))) = true := by kernel_rfl
theorem cnames_j15 : ((Rows.chainNamesRow.mapsOut == Tryz.prog.mapsAmong Tryz.f6.resultTypes.toList)) = true := by kernel_rfl
theorem cnames_j16 : ((Rows.chainNamesRow.loops == (Tryz.f6.params.toList ++ Rows.chainNamesSpec.plain.varTypes Tryz.prog).any (Tryz.prog.loopsFrom ·))) = true := by kernel_rfl
theorem cnames_j17 : ((Rows.chainNamesRow.wideKeys == (Tryz.f6.params.toList ++ Rows.chainNamesSpec.plain.varTypes Tryz.prog ++ Tryz.f6.resultTypes.toList).any (Tryz.prog.wideKeysFrom ·))) = true := by kernel_rfl
theorem cnames_j18 : (Rows.chainNamesSpec.vars.all (Tryz.prog.varReadable ·)) = true := by kernel_rfl
theorem cnames_j19 : (Tryz.f6.resultTypes.all (fun t => Tryz.prog.readableRec t && decide (t < Tryz.prog.types.size))) = true := by kernel_rfl
theorem cnames_j20 : ((Rows.chainNamesRow.ifacesOut == Tryz.f6.resultTypes.toList.any (Tryz.prog.ifacesRec ·))) = true := by kernel_rfl
theorem cnames_j21 : ((Rows.chainNamesRow.loopsOut == Tryz.f6.resultTypes.toList.any (Tryz.prog.loopsFrom ·))) = true := by kernel_rfl
theorem cnames_j22 : ((Rows.chainNamesRow.plainKeys == Tryz.prog.plainKeys)) = true := by kernel_rfl
theorem cnames_j23 : (Rows.chainNamesRow.shortTexts.isNone) = true := by kernel_rfl
theorem cnames_j24 : (Tryz.prog.stopsHeard) = true := by kernel_rfl
theorem cnames_j25 : (Tryz.prog.mayEnter) = true := by kernel_rfl
theorem cnames_j26 : ((Rows.chainNamesRow.lifted == Tryz.prog.liftsFinal)) = true := by kernel_rfl
theorem cnames_j27 : ((Tryz.prog.make == some Rows.chainNamesRow.make)) = true := by kernel_rfl
theorem cnames_j29 : ((Rows.chainNamesRow.pinned == Rows.chainNamesRow.pinnedBy)) = true := by kernel_rfl
theorem cnames_j30 : ((Rows.chainNamesRow.veiled == (Tryz.f6.params.toList ++ Rows.chainNamesSpec.plain.varTypes Tryz.prog ++ Tryz.f6.resultTypes.toList).any (Tryz.prog.veiledRec ·))) = true := by kernel_rfl
theorem cnames_j31 : (Rows.chainNamesRow.veiledFits Tryz.prog Tryz.f6.params.toList (Tryz.f6.params.toList ++ Rows.chainNamesSpec.plain.varTypes Tryz.prog ++ Tryz.f6.resultTypes.toList)) = true := by kernel_rfl
theorem cnames_and {a b : Bool} (h1 : a = true) (h2 : b = true) : (a && b) = true := by rw [h1, h2]; rfl
set_option maxRecDepth 100000 in
theorem cnames_joined : joinedFacts Tryz.prog 6 Tryz.f6 Rows.chainNamesSpec Rows.chainNamesRow = true := by
  unfold joinedFacts
  refine (cnames_and (cnames_and (cnames_and (cnames_and (cnames_and (cnames_and (cnames_and (cnames_and (cnames_and (cnames_and (cnames_and (cnames_and (cnames_and (cnames_and (cnames_and (cnames_and (cnames_and (cnames_and (cnames_and (cnames_and (cnames_and (cnames_and (cnames_and (cnames_and (cnames_and (cnames_and (cnames_and (cnames_and (cnames_and (cnames_and (cnames_and cnames_j0 cnames_j1) cnames_j2) cnames_j3) cnames_j4) cnames_j5) cnames_j6) cnames_j7) cnames_j8) cnames_j9) cnames_j10) cnames_j11) cnames_j12) cnames_j13) cnames_j14) cnames_j15) cnames_j16) cnames_j17) cnames_j18) cnames_j19) cnames_j20) cnames_j21) cnames_j22) cnames_j23) cnames_j24) cnames_j25) cnames_j26) cnames_j27) ?_) cnames_j29) cnames_j30) cnames_j31)
  as_aux_lemma => kernel_rfl
theorem chainNames_row : Rows.ChainNamesSaid :=
  OpenClaim.holds_of_wide 6 Tryz.f6 rfl rfl rfl rfl rfl rfl rfl ⟨rfl, rfl, rfl, rfl, rfl⟩ rfl rfl rfl rfl rfl (by as_aux_lemma => kernel_rfl) Tryz.func6 cnames_joined
    (of_decide_eq_true (by as_aux_lemma => kernel_rfl)) (by as_aux_lemma => unfold Func.isWrapper; first | (rw [if_pos (by decide +kernel)]; kernel_rfl) | (rw [if_neg (by decide +kernel)]; exact ⟨rfl, rfl⟩))
    (fun os started H enc _ => lifted_cnames os started H enc)
theorem chainNames_holds : Rows.ChainNamesCardSaid :=
  Claim7.holds_tied_plain_at .later [] [.data, .widerDeep, .data, .data, .data] true (true, "c40ed4fcfbfe39a1b99ee3f0c59beaee49a2c31054aa0340ec93d134df80ca4e") true
    chainNames_row (fun _ h => by cases h) (by as_aux_lemma => kernel_rfl) (fun _ h => by cases h) chainNames_row_tie rfl ⟨rfl, rfl⟩ (by as_aux_lemma => kernel_rfl) rfl
    (fun f fn hf hfn => by
      obtain rfl : f = 6 := Option.some.inj ((show Tryz.prog.funcNamed "columbarium/columbariumlaw22.ChainNames" = some 6 by kernel_rfl).symm.trans hf) |>.symm
      obtain rfl : fn = Tryz.f6 := (Option.some.inj (Tryz.func6.symm.trans hfn)).symm
      exact ⟨by as_aux_lemma => kernel_rfl, fun j t ht => by
        rw [Tryz.params6] at ht
        have hm : t ∈ [51] := by simpa using Array.mem_of_getElem? ht
        have hall : ([51].all fun u => !Tryz.prog.wantsStandIn u) = true := by as_aux_lemma => kernel_rfl
        exact (show Tryz.prog.wantsStandIn t = false by simpa using List.all_eq_true.1 hall t hm)⟩)
    (by as_aux_lemma => kernel_rfl)
#print axioms chainNames_holds
end Go.Proofs.YtellbfamofilaaaGreatDoor
