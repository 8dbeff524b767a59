/- NodeShares returns true at every input, and every argument reads as it did: the tied card; no condition. -/
import Derived.Test.YtellbfamofilaaaGreatDoorRows
import Derived.Test.YtellbfamofilaaaGreatDoorCards
import Derived.Test.YtellbfamofilaaaGreatDoorTie
import Derived.Test.YtellbfamofilaaaGreatDoorLaw21s
import Derived.Test.YtellbfamofilaaaGreatDoorLaid15
import Derived.Test.YtellbfamofilaaaGreatDoorOpenT
import Derived.WalkKit
import Derived.ProofKit
import Derived.LaidMore
import Derived.OpenShut
import Derived.Stop.Joined
import Derived.SevenTiedAt
import Derived.Lay
import Derived.ShutString
import Derived.ChangeOld
import Derived.Below
namespace Go.Proofs.YtellbfamofilaaaGreatDoor
open Go.ChangeShapes Go.WideShapes Go.ChangeAt Go.RowKit
open Go.ChangeMaps (open_string shut_string)
set_option linter.unusedVariables false
set_option linter.unusedSimpArgs false

theorem nshares_out : laidOutB Tryz.prog = true := by kernel_rfl
theorem nshares_own : ownKnob Tryz.prog.godebug = none := by kernel_rfl
set_option maxRecDepth 100000 in
theorem lifted_nshares (os : Os) (started : os.Started) (H : Type) (enc : TypeId × Value → H) :
    ReturnsInHanded {} Tryz.checked os 4 .any (fun w args => (Rows.nodeSharesSpec.pre enc Tryz.prog Tryz.f4 Rows.nodeSharesRow.domain false w args ∧ laidMetH Tryz.prog laid5 w) ∧ sizedMet enc Tryz.prog Tryz.f4 (OpenSpec.ofChange Rows.nodeSharesSpec) false w args)
      (Rows.nodeSharesSpec.post enc Tryz.prog Tryz.f4 false true false false) := by
  refine returnsInHanded_of_change_and (C := Tryz.checked) (X := fun w _ => laidMetH Tryz.prog laid5 w) (fun _ _ _ hh h => h.of_heap hh) nshares_own started (by kernel_rfl) Tryz.func4
    (ChangeSpec.witness_shaped (enc := enc) (C := Tryz.checked) (os := os) (X := fun w _ => laidMetH Tryz.prog laid5 w) false (World.laidAll Tryz.prog os laid5) #[.slice none 0 0] 8 (World.laidAll_os _ _ _)
      (World.shaped_of_ZipB (by kernel_rfl) (by kernel_rfl)) (by kernel_rfl) (by kernel_rfl) (by kernel_rfl)
      (by rw [MakeChecks.laidMetH_plain _ _ _ (by kernel_rfl)]; exact laidMet_laidAll _ (by kernel_rfl) (by kernel_rfl))) ?_
  intro W base args ds gs before hval0 hW hcnd _ hL _
  have hval : ∀ (j : Nat) t v, Tryz.f4.params[j]? = some t → args[j]? = some v → Value.okWide Tryz.prog W .any base t v := hval0
  have hW' := hW
  obtain ⟨p, q, hA0, hV, rfl, hfz, hnd⟩ := hW
  have hA : DataW.TrodAll enc Tryz.prog W 0 (fun _ => true) true Tryz.f4.params.toList args.toList ds p := hA0
  rw [Tryz.params4] at hA hval
  obtain ⟨v0, vs0, d0, ds0, p0, q0, hargs, rfl, rfl, h0, r0⟩ := trodAll_cons hA
  obtain ⟨rfl, rfl, rfl⟩ := trodAll_nil r0
  obtain rfl : args = #[v0] := by cases args; simp_all
  obtain ⟨rfl, rfl⟩ := trodVars_none hV
  have k0 := h0
  have lt0 : ∀ x ∈ p0, x.block < W.heap.size := by obtain ⟨m, hm⟩ := k0; exact DataW.trod_lt m _ _ _ hm
  obtain ⟨a0, c0, l0, rfl, hb0⟩ := open_strss (hval 0 42 v0 rfl rfl) h0
  have hT := tabs5_of_laid hL
  clear hA0 hval0
  simp only [List.append_nil] at hW'
  refine (walk_nsharesW W hT a0 c0 l0 hb0).mono fun e W' ⟨he, hfr⟩ => ?_
  subst he
  have bel : Below W.heap.size W W' := hfr.below (Nat.le_refl _) (fun k hk => by simp at hk)
  exact ⟨_, rfl, _, _, _, [], _, [], hW', trodAll_mk1 (shut_bool Tryz.underlying4 _), (trodAll_cons_mk (Below.trod nshares_out (by kernel_rfl) (of_decide_eq_true (by kernel_rfl)) k0 bel lt0) trodAll_mk0), rfl, bel.frame _, fun h => by cases h⟩

theorem nshares_j0 : (Rows.nodeSharesRow.wf (OpenSpec.ofChange Rows.nodeSharesSpec)) = true := by kernel_rfl
theorem nshares_j1 : (laidOutB Tryz.prog) = true := by kernel_rfl
theorem nshares_j2 : (mapsRowed Tryz.prog) = true := by kernel_rfl
theorem nshares_j3 : (Tryz.f4.params.all (Tryz.prog.readableRec ·)) = true := by kernel_rfl
theorem nshares_j4 : (namedTie Tryz.prog Rows.nodeSharesRow.named Rows.nodeSharesSpec.vars) = true := by kernel_rfl
theorem nshares_j5 : ((Rows.nodeSharesRow.stops == [])) = true := by kernel_rfl
theorem nshares_j6 : ((Tryz.prog.stops == [])) = true := by kernel_rfl
theorem nshares_j7 : ((Rows.nodeSharesRow.knobs == [])) = true := by kernel_rfl
theorem nshares_j8 : ((Tryz.prog.stopKnobs == [])) = true := by kernel_rfl
theorem nshares_j9 : ((Rows.nodeSharesRow.inPlace == Tryz.prog.inPlace 4)) = true := by kernel_rfl
theorem nshares_j10 : ((Rows.nodeSharesRow.unfollowed == Tryz.prog.unfollowed 4)) = true := by kernel_rfl
theorem nshares_j11 : ((Rows.nodeSharesRow.recurses == Tryz.prog.recurses 4)) = true := by kernel_rfl
theorem nshares_j12 : ((Rows.nodeSharesRow.named == Tryz.prog.varsNamed 4)) = true := by kernel_rfl
theorem nshares_j13 : ((Rows.nodeSharesRow.maps == (Tryz.f4.params.toList ++ Rows.nodeSharesSpec.plain.varTypes Tryz.prog).any (Tryz.prog.mapsRec ·))) = true := by kernel_rfl
theorem nshares_j14 : ((Rows.nodeSharesRow.ifaces == (Tryz.f4.params.toList ++ Rows.nodeSharesSpec.plain.varTypes Tryz.prog).any (Tryz.prog.ifacesRec ·))) = true := by kernel_rfl
theorem nshares_j15 : ((Rows.nodeSharesRow.mapsOut == Tryz.prog.mapsAmong Tryz.f4.resultTypes.toList)) = true := by kernel_rfl
theorem nshares_j16 : ((Rows.nodeSharesRow.loops == (Tryz.f4.params.toList ++ Rows.nodeSharesSpec.plain.varTypes Tryz.prog).any (Tryz.prog.loopsFrom ·))) = true := by kernel_rfl
theorem nshares_j17 : ((Rows.nodeSharesRow.wideKeys == (Tryz.f4.params.toList ++ Rows.nodeSharesSpec.plain.varTypes Tryz.prog ++ Tryz.f4.resultTypes.toList).any (Tryz.prog.wideKeysFrom ·))) = true := by kernel_rfl
theorem nshares_j18 : (Rows.nodeSharesSpec.vars.all (Tryz.prog.varReadable ·)) = true := by kernel_rfl
theorem nshares_j19 : (Tryz.f4.resultTypes.all (fun t => Tryz.prog.readableRec t && decide (t < Tryz.prog.types.size))) = true := by kernel_rfl
theorem nshares_j20 : ((Rows.nodeSharesRow.ifacesOut == Tryz.f4.resultTypes.toList.any (Tryz.prog.ifacesRec ·))) = true := by kernel_rfl
theorem nshares_j21 : ((Rows.nodeSharesRow.loopsOut == Tryz.f4.resultTypes.toList.any (Tryz.prog.loopsFrom ·))) = true := by kernel_rfl
theorem nshares_j22 : ((Rows.nodeSharesRow.plainKeys == Tryz.prog.plainKeys)) = true := by kernel_rfl
theorem nshares_j23 : (Rows.nodeSharesRow.shortTexts.isNone) = true := by kernel_rfl
theorem nshares_j24 : (Tryz.prog.stopsHeard) = true := by kernel_rfl
theorem nshares_j25 : (Tryz.prog.mayEnter) = true := by kernel_rfl
theorem nshares_j26 : ((Rows.nodeSharesRow.lifted == Tryz.prog.liftsFinal)) = true := by kernel_rfl
theorem nshares_j27 : ((Tryz.prog.make == some Rows.nodeSharesRow.make)) = true := by kernel_rfl
theorem nshares_j29 : ((Rows.nodeSharesRow.pinned == Rows.nodeSharesRow.pinnedBy)) = true := by kernel_rfl
theorem nshares_j30 : ((Rows.nodeSharesRow.veiled == (Tryz.f4.params.toList ++ Rows.nodeSharesSpec.plain.varTypes Tryz.prog ++ Tryz.f4.resultTypes.toList).any (Tryz.prog.veiledRec ·))) = true := by kernel_rfl
theorem nshares_j31 : (Rows.nodeSharesRow.veiledFits Tryz.prog Tryz.f4.params.toList (Tryz.f4.params.toList ++ Rows.nodeSharesSpec.plain.varTypes Tryz.prog ++ Tryz.f4.resultTypes.toList)) = true := by kernel_rfl
theorem nshares_and {a b : Bool} (h1 : a = true) (h2 : b = true) : (a && b) = true := by rw [h1, h2]; rfl
set_option maxRecDepth 100000 in
theorem nshares_joined : joinedFacts Tryz.prog 4 Tryz.f4 Rows.nodeSharesSpec Rows.nodeSharesRow = true := by
  unfold joinedFacts
  refine (nshares_and (nshares_and (nshares_and (nshares_and (nshares_and (nshares_and (nshares_and (nshares_and (nshares_and (nshares_and (nshares_and (nshares_and (nshares_and (nshares_and (nshares_and (nshares_and (nshares_and (nshares_and (nshares_and (nshares_and (nshares_and (nshares_and (nshares_and (nshares_and (nshares_and (nshares_and (nshares_and (nshares_and (nshares_and (nshares_and (nshares_and nshares_j0 nshares_j1) nshares_j2) nshares_j3) nshares_j4) nshares_j5) nshares_j6) nshares_j7) nshares_j8) nshares_j9) nshares_j10) nshares_j11) nshares_j12) nshares_j13) nshares_j14) nshares_j15) nshares_j16) nshares_j17) nshares_j18) nshares_j19) nshares_j20) nshares_j21) nshares_j22) nshares_j23) nshares_j24) nshares_j25) nshares_j26) nshares_j27) ?_) nshares_j29) nshares_j30) nshares_j31)
  as_aux_lemma => kernel_rfl
theorem nodeShares_row : Rows.NodeSharesSaid :=
  OpenClaim.holds_of_wide 4 Tryz.f4 rfl rfl rfl rfl rfl rfl rfl ⟨rfl, rfl, rfl, rfl, rfl⟩ rfl rfl rfl rfl rfl (by as_aux_lemma => kernel_rfl) Tryz.func4 nshares_joined
    (of_decide_eq_true (by as_aux_lemma => kernel_rfl)) (by as_aux_lemma => unfold Func.isWrapper; first | (rw [if_pos (by decide +kernel)]; kernel_rfl) | (rw [if_neg (by decide +kernel)]; exact ⟨rfl, rfl⟩))
    (fun os started H enc _ => lifted_nshares os started H enc)
theorem nodeShares_holds : Rows.NodeSharesCardSaid :=
  Claim7.holds_tied_plain_at .later [] [.data, .widerDeep, .data, .data, .data] true (true, "c40ed4fcfbfe39a1b99ee3f0c59beaee49a2c31054aa0340ec93d134df80ca4e") true
    nodeShares_row (fun _ h => by cases h) (by as_aux_lemma => kernel_rfl) (fun _ h => by cases h) nodeShares_row_tie rfl ⟨rfl, rfl⟩ (by as_aux_lemma => kernel_rfl) rfl
    (fun f fn hf hfn => by
      obtain rfl : f = 4 := Option.some.inj ((show Tryz.prog.funcNamed "columbarium/columbariumlaw21.NodeShares" = some 4 by kernel_rfl).symm.trans hf) |>.symm
      obtain rfl : fn = Tryz.f4 := (Option.some.inj (Tryz.func4.symm.trans hfn)).symm
      exact ⟨by as_aux_lemma => kernel_rfl, fun j t ht => by
        rw [Tryz.params4] at ht
        have hm : t ∈ [42] := by simpa using Array.mem_of_getElem? ht
        have hall : ([42].all fun u => !Tryz.prog.wantsStandIn u) = true := by as_aux_lemma => kernel_rfl
        exact (show Tryz.prog.wantsStandIn t = false by simpa using List.all_eq_true.1 hall t hm)⟩)
    (by as_aux_lemma => kernel_rfl)
#print axioms nodeShares_holds
end Go.Proofs.YtellbfamofilaaaGreatDoor
