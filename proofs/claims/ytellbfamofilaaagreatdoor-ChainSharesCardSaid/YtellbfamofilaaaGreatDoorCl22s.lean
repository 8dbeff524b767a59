/- ChainShares returns true at every input, and every argument reads as it did: the tied card; no condition. -/
import Derived.Test.YtellbfamofilaaaGreatDoorRows
import Derived.Test.YtellbfamofilaaaGreatDoorCards
import Derived.Test.YtellbfamofilaaaGreatDoorTie
import Derived.Test.YtellbfamofilaaaGreatDoorLaw22s
import Derived.Test.YtellbfamofilaaaGreatDoorLaid15
import Derived.Test.YtellbfamofilaaaGreatDoorMO
import Derived.WalkKit
import Derived.ProofKit
import Derived.LaidMore
import Derived.OpenShut
import Derived.Stop.Joined
import Derived.SevenTiedAt
import Derived.Lay
import Derived.ShutString
import Derived.ChangeOld
import Derived.Below
namespace Go.Proofs.YtellbfamofilaaaGreatDoor
open Go.ChangeShapes Go.WideShapes Go.ChangeAt Go.RowKit
open Go.ChangeMaps (open_string shut_string)
set_option linter.unusedVariables false
set_option linter.unusedSimpArgs false

theorem cshares_out : laidOutB Tryz.prog = true := by kernel_rfl
theorem cshares_own : ownKnob Tryz.prog.godebug = none := by kernel_rfl
set_option maxRecDepth 100000 in
theorem lifted_cshares (os : Os) (started : os.Started) (H : Type) (enc : TypeId × Value → H) :
    ReturnsInHanded {} Tryz.checked os 5 .any (fun w args => (Rows.chainSharesSpec.pre enc Tryz.prog Tryz.f5 Rows.chainSharesRow.domain false w args ∧ laidMetH Tryz.prog laid5 w) ∧ sizedMet enc Tryz.prog Tryz.f5 (OpenSpec.ofChange Rows.chainSharesSpec) false w args)
      (Rows.chainSharesSpec.post enc Tryz.prog Tryz.f5 false true false false) := by
  refine returnsInHanded_of_change_and (C := Tryz.checked) (X := fun w _ => laidMetH Tryz.prog laid5 w) (fun _ _ _ hh h => h.of_heap hh) cshares_own started (by kernel_rfl) Tryz.func5
    (ChangeSpec.witness_shaped (enc := enc) (C := Tryz.checked) (os := os) (X := fun w _ => laidMetH Tryz.prog laid5 w) false (World.laidAll Tryz.prog os laid5) #[.slice none 0 0] 8 (World.laidAll_os _ _ _)
      (World.shaped_of_ZipB (by kernel_rfl) (by kernel_rfl)) (by kernel_rfl) (by kernel_rfl) (by kernel_rfl)
      (by rw [MakeChecks.laidMetH_plain _ _ _ (by kernel_rfl)]; exact laidMet_laidAll _ (by kernel_rfl) (by kernel_rfl))) ?_
  intro W base args ds gs before hval0 hW hcnd _ hL _
  have hval : ∀ (j : Nat) t v, Tryz.f5.params[j]? = some t → args[j]? = some v → Value.okWide Tryz.prog W .any base t v := hval0
  have hW' := hW
  obtain ⟨p, q, hA0, hV, rfl, hfz, hnd⟩ := hW
  have hA : DataW.TrodAll enc Tryz.prog W 0 (fun _ => true) true Tryz.f5.params.toList args.toList ds p := hA0
  rw [Tryz.params5] at hA hval
  obtain ⟨v0, vs0, d0, ds0, p0, q0, hargs, rfl, rfl, h0, r0⟩ := trodAll_cons hA
  obtain ⟨rfl, rfl, rfl⟩ := trodAll_nil r0
  obtain rfl : args = #[v0] := by cases args; simp_all
  obtain ⟨rfl, rfl⟩ := trodVars_none hV
  have k0 := h0
  have lt0 : ∀ x ∈ p0, x.block < W.heap.size := by obtain ⟨m, hm⟩ := k0; exact DataW.trod_lt m _ _ _ hm
  obtain ⟨a0, c0, l0, rfl, hb0⟩ := open_acts22 (hval 0 51 v0 rfl rfl) h0
  have hT := tabs5_of_laid hL
  clear hA0 hval0
  simp only [List.append_nil] at hW'
  refine (walk_csharesW W hT a0 c0 l0 hb0).mono fun e W' ⟨he, hfr⟩ => ?_
  subst he
  have bel : Below W.heap.size W W' := hfr.below (Nat.le_refl _) (fun k hk => by simp at hk)
  exact ⟨_, rfl, _, _, _, [], _, [], hW', trodAll_mk1 (shut_bool Tryz.underlying4 _), (trodAll_cons_mk (Below.trod cshares_out (by kernel_rfl) (of_decide_eq_true (by kernel_rfl)) k0 bel lt0) trodAll_mk0), rfl, bel.frame _, fun h => by cases h⟩

theorem cshares_j0 : (Rows.chainSharesRow.wf (OpenSpec.ofChange Rows.chainSharesSpec)) = true := by kernel_rfl
theorem cshares_j1 : (laidOutB Tryz.prog) = true := by kernel_rfl
theorem cshares_j2 : (mapsRowed Tryz.prog) = true := by kernel_rfl
theorem cshares_j3 : (Tryz.f5.params.all (Tryz.prog.readableRec ·)) = true := by kernel_rfl
theorem cshares_j4 : (namedTie Tryz.prog Rows.chainSharesRow.named Rows.chainSharesSpec.vars) = true := by kernel_rfl
theorem cshares_j5 : ((Rows.chainSharesRow.stops == [])) = true := by kernel_rfl
theorem cshares_j6 : ((Tryz.prog.stops == [])) = true := by kernel_rfl
theorem cshares_j7 : ((Rows.chainSharesRow.knobs == [])) = true := by kernel_rfl
theorem cshares_j8 : ((Tryz.prog.stopKnobs == [])) = true := by kernel_rfl
theorem cshares_j9 : ((Rows.chainSharesRow.inPlace == Tryz.prog.inPlace 5)) = true := by kernel_rfl
theorem cshares_j10 : ((Rows.chainSharesRow.unfollowed == Tryz.prog.unfollowed 5)) = true := by kernel_rfl
theorem cshares_j11 : ((Rows.chainSharesRow.recurses == Tryz.prog.recurses 5)) = true := by kernel_rfl
theorem cshares_j12 : ((Rows.chainSharesRow.named == Tryz.prog.varsNamed 5)) = true := by kernel_rfl
theorem cshares_j13 : ((Rows.chainSharesRow.maps == (Tryz.f5.params.toList ++ Rows.chainSharesSpec.plain.varTypes Tryz.prog).any (Tryz.prog.mapsRec ·))) = true := by kernel_rfl
theorem cshares_j14 : ((Rows.chainSharesRow.ifaces == (Tryz.f5.params.toList ++ Rows.chainSharesSpec.plain.varTypes Tryz.prog).any (Tryz.prog.ifacesRec ·))) = true := by kernel_rfl
theorem cshares_j15 : ((Rows.chainSharesRow.mapsOut == Tryz.prog.mapsAmong Tryz.f5.resultTypes.toList)) = true := by kernel_rfl
theorem cshares_j16 : ((Rows.chainSharesRow.loops == (Tryz.f5.params.toList ++ Rows.chainSharesSpec.plain.varTypes Tryz.prog).any (Tryz.prog.loopsFrom ·))) = true := by kernel_rfl
theorem cshares_j17 : ((Rows.chainSharesRow.wideKeys == (Tryz.f5.params.toList ++ Rows.chainSharesSpec.plain.varTypes Tryz.prog ++ Tryz.f5.resultTypes.toList).any (Tryz.prog.wideKeysFrom ·))) = true := by kernel_rfl
theorem cshares_j18 : (Rows.chainSharesSpec.vars.all (Tryz.prog.varReadable ·)) = true := by kernel_rfl
theorem cshares_j19 : (Tryz.f5.resultTypes.all (fun t => Tryz.prog.readableRec t && decide (t < Tryz.prog.types.size))) = true := by kernel_rfl
theorem cshares_j20 : ((Rows.chainSharesRow.ifacesOut == Tryz.f5.resultTypes.toList.any (Tryz.prog.ifacesRec ·))) = true := by kernel_rfl
theorem cshares_j21 : ((Rows.chainSharesRow.loopsOut == Tryz.f5.resultTypes.toList.any (Tryz.prog.loopsFrom ·))) = true := by kernel_rfl
theorem cshares_j22 : ((Rows.chainSharesRow.plainKeys == Tryz.prog.plainKeys)) = true := by kernel_rfl
theorem cshares_j23 : (Rows.chainSharesRow.shortTexts.isNone) = true := by kernel_rfl
theorem cshares_j24 : (Tryz.prog.stopsHeard) = true := by kernel_rfl
theorem cshares_j25 : (Tryz.prog.mayEnter) = true := by kernel_rfl
theorem cshares_j26 : ((Rows.chainSharesRow.lifted == Tryz.prog.liftsFinal)) = true := by kernel_rfl
theorem cshares_j27 : ((Tryz.prog.make == some Rows.chainSharesRow.make)) = true := by kernel_rfl
theorem cshares_j29 : ((Rows.chainSharesRow.pinned == Rows.chainSharesRow.pinnedBy)) = true := by kernel_rfl
theorem cshares_j30 : ((Rows.chainSharesRow.veiled == (Tryz.f5.params.toList ++ Rows.chainSharesSpec.plain.varTypes Tryz.prog ++ Tryz.f5.resultTypes.toList).any (Tryz.prog.veiledRec ·))) = true := by kernel_rfl
theorem cshares_j31 : (Rows.chainSharesRow.veiledFits Tryz.prog Tryz.f5.params.toList (Tryz.f5.params.toList ++ Rows.chainSharesSpec.plain.varTypes Tryz.prog ++ Tryz.f5.resultTypes.toList)) = true := by kernel_rfl
theorem cshares_and {a b : Bool} (h1 : a = true) (h2 : b = true) : (a && b) = true := by rw [h1, h2]; rfl
set_option maxRecDepth 100000 in
theorem cshares_joined : joinedFacts Tryz.prog 5 Tryz.f5 Rows.chainSharesSpec Rows.chainSharesRow = true := by
  unfold joinedFacts
  refine (cshares_and (cshares_and (cshares_and (cshares_and (cshares_and (cshares_and (cshares_and (cshares_and (cshares_and (cshares_and (cshares_and (cshares_and (cshares_and (cshares_and (cshares_and (cshares_and (cshares_and (cshares_and (cshares_and (cshares_and (cshares_and (cshares_and (cshares_and (cshares_and (cshares_and (cshares_and (cshares_and (cshares_and (cshares_and (cshares_and (cshares_and cshares_j0 cshares_j1) cshares_j2) cshares_j3) cshares_j4) cshares_j5) cshares_j6) cshares_j7) cshares_j8) cshares_j9) cshares_j10) cshares_j11) cshares_j12) cshares_j13) cshares_j14) cshares_j15) cshares_j16) cshares_j17) cshares_j18) cshares_j19) cshares_j20) cshares_j21) cshares_j22) cshares_j23) cshares_j24) cshares_j25) cshares_j26) cshares_j27) ?_) cshares_j29) cshares_j30) cshares_j31)
  as_aux_lemma => kernel_rfl
theorem chainShares_row : Rows.ChainSharesSaid :=
  OpenClaim.holds_of_wide 5 Tryz.f5 rfl rfl rfl rfl rfl rfl rfl ⟨rfl, rfl, rfl, rfl, rfl⟩ rfl rfl rfl rfl rfl (by as_aux_lemma => kernel_rfl) Tryz.func5 cshares_joined
    (of_decide_eq_true (by as_aux_lemma => kernel_rfl)) (by as_aux_lemma => unfold Func.isWrapper; first | (rw [if_pos (by decide +kernel)]; kernel_rfl) | (rw [if_neg (by decide +kernel)]; exact ⟨rfl, rfl⟩))
    (fun os started H enc _ => lifted_cshares os started H enc)
theorem chainShares_holds : Rows.ChainSharesCardSaid :=
  Claim7.holds_tied_plain_at .later [] [.data, .widerDeep, .data, .data, .data] true (true, "c40ed4fcfbfe39a1b99ee3f0c59beaee49a2c31054aa0340ec93d134df80ca4e") true
    chainShares_row (fun _ h => by cases h) (by as_aux_lemma => kernel_rfl) (fun _ h => by cases h) chainShares_row_tie rfl ⟨rfl, rfl⟩ (by as_aux_lemma => kernel_rfl) rfl
    (fun f fn hf hfn => by
      obtain rfl : f = 5 := Option.some.inj ((show Tryz.prog.funcNamed "columbarium/columbariumlaw22.ChainShares" = some 5 by kernel_rfl).symm.trans hf) |>.symm
      obtain rfl : fn = Tryz.f5 := (Option.some.inj (Tryz.func5.symm.trans hfn)).symm
      exact ⟨by as_aux_lemma => kernel_rfl, fun j t ht => by
        rw [Tryz.params5] at ht
        have hm : t ∈ [51] := by simpa using Array.mem_of_getElem? ht
        have hall : ([51].all fun u => !Tryz.prog.wantsStandIn u) = true := by as_aux_lemma => kernel_rfl
        exact (show Tryz.prog.wantsStandIn t = false by simpa using List.all_eq_true.1 hall t hm)⟩)
    (by as_aux_lemma => kernel_rfl)
#print axioms chainShares_holds
end Go.Proofs.YtellbfamofilaaaGreatDoor
