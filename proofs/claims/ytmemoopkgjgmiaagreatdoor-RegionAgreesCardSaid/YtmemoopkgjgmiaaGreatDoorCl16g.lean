/- RegionAgrees returns true at every input, and every argument reads as it did: the tied card; no condition. -/
import Derived.Test.YtmemoopkgjgmiaaGreatDoorRows
import Derived.Test.YtmemoopkgjgmiaaGreatDoorCards
import Derived.Test.YtmemoopkgjgmiaaGreatDoorTie
import Derived.Test.YtmemoopkgjgmiaaGreatDoorLaw16g
import Derived.Test.YtmemoopkgjgmiaaGreatDoorLaidE
import Derived.Test.YtmemoopkgjgmiaaGreatDoorLC
import Derived.WalkKit
import Derived.ProofKit
import Derived.LaidMore
import Derived.OpenShut
import Derived.Stop.Joined
import Derived.SevenTiedAt
import Derived.Lay
import Derived.ShutString
import Derived.ChangeOld
import Derived.Below
namespace Go.Proofs.YtmemoopkgjgmiaaGreatDoor
open Go.ChangeShapes Go.WideShapes Go.ChangeAt Go.RowKit
open Go.ChangeMaps (open_string shut_string)
set_option linter.unusedVariables false
set_option linter.unusedSimpArgs false

theorem ragrees_out : laidOutB Tryz.prog = true := by kernel_rfl
theorem ragrees_own : ownKnob Tryz.prog.godebug = none := by kernel_rfl
set_option maxRecDepth 100000 in
theorem lifted_ragrees (os : Os) (started : os.Started) (H : Type) (enc : TypeId × Value → H) :
    ReturnsInHanded {} Tryz.checked os 6 .any (fun w args => (Rows.regionAgreesSpec.pre enc Tryz.prog Tryz.f6 Rows.regionAgreesRow.domain false w args ∧ laidMetH Tryz.prog laidE w) ∧ sizedMet enc Tryz.prog Tryz.f6 (OpenSpec.ofChange Rows.regionAgreesSpec) false w args)
      (Rows.regionAgreesSpec.post enc Tryz.prog Tryz.f6 false true false false) := by
  refine returnsInHanded_of_change_and (C := Tryz.checked) (X := fun w _ => laidMetH Tryz.prog laidE w) (fun _ _ _ hh h => h.of_heap hh) ragrees_own started (by kernel_rfl) Tryz.func6
    (ChangeSpec.witness_shaped (enc := enc) (C := Tryz.checked) (os := os) (X := fun w _ => laidMetH Tryz.prog laidE w) false (laidWE os) #[.slice none 0 0] 8 (laidWE_os os)
      (World.shaped_of_ZipB (by kernel_rfl) (by kernel_rfl)) (by kernel_rfl) (by kernel_rfl) (by kernel_rfl)
      (laidWE_met os _)) ?_
  intro W base args ds gs before hval0 hW hcnd _ hL _
  have hval : ∀ (j : Nat) t v, Tryz.f6.params[j]? = some t → args[j]? = some v → Value.okWide Tryz.prog W .any base t v := hval0
  have hW' := hW
  obtain ⟨p, q, hA0, hV, rfl, hfz, hnd⟩ := hW
  have hA : DataW.TrodAll enc Tryz.prog W 0 (fun _ => true) true Tryz.f6.params.toList args.toList ds p := hA0
  rw [Tryz.params6] at hA hval
  obtain ⟨v0, vs0, d0, ds0, p0, q0, hargs, rfl, rfl, h0, r0⟩ := trodAll_cons hA
  obtain ⟨rfl, rfl, rfl⟩ := trodAll_nil r0
  obtain rfl : args = #[v0] := by cases args; simp_all
  obtain ⟨rfl, rfl⟩ := trodVars_none hV
  have k0 := h0
  have lt0 : ∀ x ∈ p0, x.block < W.heap.size := by obtain ⟨m, hm⟩ := k0; exact DataW.trod_lt m _ _ _ hm
  obtain ⟨a0, c0, l0, rfl, hb0⟩ := open_acts16 (hval 0 77 v0 rfl rfl) h0
  have hT := tabsE_of_laid hL
  clear hA0 hval0
  simp only [List.append_nil] at hW'
  refine (walk_ragreesW W hT a0 c0 l0 hb0).mono fun e W' ⟨he, hfr⟩ => ?_
  subst he
  have bel : Below W.heap.size W W' := hfr.below (Nat.le_refl _) (fun k hk => by simp at hk)
  exact ⟨_, rfl, _, _, _, [], _, [], hW', trodAll_mk1 (shut_bool Tryz.underlying4 _), (trodAll_cons_mk (Below.trod ragrees_out (by kernel_rfl) (of_decide_eq_true (by kernel_rfl)) k0 bel lt0) trodAll_mk0), rfl, bel.frame _, fun h => by cases h⟩

theorem ragrees_j0 : (Rows.regionAgreesRow.wf (OpenSpec.ofChange Rows.regionAgreesSpec)) = true := by kernel_rfl
theorem ragrees_j1 : (laidOutB Tryz.prog) = true := by kernel_rfl
theorem ragrees_j2 : (mapsRowed Tryz.prog) = true := by kernel_rfl
theorem ragrees_j3 : (Tryz.f6.params.all (Tryz.prog.readableRec ·)) = true := by kernel_rfl
theorem ragrees_j4 : (namedTie Tryz.prog Rows.regionAgreesRow.named Rows.regionAgreesSpec.vars) = true := by kernel_rfl
theorem ragrees_j5 : ((Rows.regionAgreesRow.stops == [])) = true := by kernel_rfl
theorem ragrees_j6 : ((Tryz.prog.stops == [])) = true := by kernel_rfl
theorem ragrees_j7 : ((Rows.regionAgreesRow.knobs == [])) = true := by kernel_rfl
theorem ragrees_j8 : ((Tryz.prog.stopKnobs == [])) = true := by kernel_rfl
theorem ragrees_j9 : ((Rows.regionAgreesRow.inPlace == Tryz.prog.inPlace 6)) = true := by kernel_rfl
theorem ragrees_j10 : ((Rows.regionAgreesRow.unfollowed == Tryz.prog.unfollowed 6)) = true := by kernel_rfl
theorem ragrees_j11 : ((Rows.regionAgreesRow.recurses == Tryz.prog.recurses 6)) = true := by kernel_rfl
theorem ragrees_j12 : ((Rows.regionAgreesRow.named == Tryz.prog.varsNamed 6)) = true := by kernel_rfl
theorem ragrees_j13 : ((Rows.regionAgreesRow.maps == (Tryz.f6.params.toList ++ Rows.regionAgreesSpec.plain.varTypes Tryz.prog).any (Tryz.prog.mapsRec ·))) = true := by kernel_rfl
theorem ragrees_j14 : ((Rows.regionAgreesRow.ifaces == (Tryz.f6.params.toList ++ Rows.regionAgreesSpec.plain.varTypes Tryz.prog).any (Tryz.prog.ifacesRec ·))) = true := by kernel_rfl
theorem ragrees_j15 : ((Rows.regionAgreesRow.mapsOut == Tryz.prog.mapsAmong Tryz.f6.resultTypes.toList)) = true := by kernel_rfl
theorem ragrees_j16 : ((Rows.regionAgreesRow.loops == (Tryz.f6.params.toList ++ Rows.regionAgreesSpec.plain.varTypes Tryz.prog).any (Tryz.prog.loopsFrom ·))) = true := by kernel_rfl
theorem ragrees_j17 : ((Rows.regionAgreesRow.wideKeys == (Tryz.f6.params.toList ++ Rows.regionAgreesSpec.plain.varTypes Tryz.prog ++ Tryz.f6.resultTypes.toList).any (Tryz.prog.wideKeysFrom ·))) = true := by kernel_rfl
theorem ragrees_j18 : (Rows.regionAgreesSpec.vars.all (Tryz.prog.varReadable ·)) = true := by kernel_rfl
theorem ragrees_j19 : (Tryz.f6.resultTypes.all (fun t => Tryz.prog.readableRec t && decide (t < Tryz.prog.types.size))) = true := by kernel_rfl
theorem ragrees_j20 : ((Rows.regionAgreesRow.ifacesOut == Tryz.f6.resultTypes.toList.any (Tryz.prog.ifacesRec ·))) = true := by kernel_rfl
theorem ragrees_j21 : ((Rows.regionAgreesRow.loopsOut == Tryz.f6.resultTypes.toList.any (Tryz.prog.loopsFrom ·))) = true := by kernel_rfl
theorem ragrees_j22 : ((Rows.regionAgreesRow.plainKeys == Tryz.prog.plainKeys)) = true := by kernel_rfl
theorem ragrees_j23 : (Rows.regionAgreesRow.shortTexts.isNone) = true := by kernel_rfl
theorem ragrees_j24 : (Tryz.prog.stopsHeard) = true := by kernel_rfl
theorem ragrees_j25 : (Tryz.prog.mayEnter) = true := by kernel_rfl
theorem ragrees_j26 : ((Rows.regionAgreesRow.lifted == Tryz.prog.liftsFinal)) = true := by kernel_rfl
theorem ragrees_j27 : ((Tryz.prog.make == some Rows.regionAgreesRow.make)) = true := by kernel_rfl
theorem ragrees_j29 : ((Rows.regionAgreesRow.pinned == Rows.regionAgreesRow.pinnedBy)) = true := by kernel_rfl
theorem ragrees_j30 : ((Rows.regionAgreesRow.veiled == (Tryz.f6.params.toList ++ Rows.regionAgreesSpec.plain.varTypes Tryz.prog ++ Tryz.f6.resultTypes.toList).any (Tryz.prog.veiledRec ·))) = true := by kernel_rfl
theorem ragrees_j31 : (Rows.regionAgreesRow.veiledFits Tryz.prog Tryz.f6.params.toList (Tryz.f6.params.toList ++ Rows.regionAgreesSpec.plain.varTypes Tryz.prog ++ Tryz.f6.resultTypes.toList)) = true := by kernel_rfl
theorem ragrees_and {a b : Bool} (h1 : a = true) (h2 : b = true) : (a && b) = true := by rw [h1, h2]; rfl
set_option maxRecDepth 100000 in
theorem ragrees_joined : joinedFacts Tryz.prog 6 Tryz.f6 Rows.regionAgreesSpec Rows.regionAgreesRow = true := by
  unfold joinedFacts
  refine (ragrees_and (ragrees_and (ragrees_and (ragrees_and (ragrees_and (ragrees_and (ragrees_and (ragrees_and (ragrees_and (ragrees_and (ragrees_and (ragrees_and (ragrees_and (ragrees_and (ragrees_and (ragrees_and (ragrees_and (ragrees_and (ragrees_and (ragrees_and (ragrees_and (ragrees_and (ragrees_and (ragrees_and (ragrees_and (ragrees_and (ragrees_and (ragrees_and (ragrees_and (ragrees_and (ragrees_and ragrees_j0 ragrees_j1) ragrees_j2) ragrees_j3) ragrees_j4) ragrees_j5) ragrees_j6) ragrees_j7) ragrees_j8) ragrees_j9) ragrees_j10) ragrees_j11) ragrees_j12) ragrees_j13) ragrees_j14) ragrees_j15) ragrees_j16) ragrees_j17) ragrees_j18) ragrees_j19) ragrees_j20) ragrees_j21) ragrees_j22) ragrees_j23) ragrees_j24) ragrees_j25) ragrees_j26) ragrees_j27) ?_) ragrees_j29) ragrees_j30) ragrees_j31)
  as_aux_lemma => kernel_rfl
theorem regionAgrees_row : Rows.RegionAgreesSaid :=
  OpenClaim.holds_of_wide 6 Tryz.f6 rfl rfl rfl rfl rfl rfl rfl ⟨rfl, rfl, rfl, rfl, rfl⟩ rfl rfl rfl rfl rfl (by as_aux_lemma => kernel_rfl) Tryz.func6 ragrees_joined
    (of_decide_eq_true (by as_aux_lemma => kernel_rfl)) (by as_aux_lemma => unfold Func.isWrapper; first | (rw [if_pos (by decide +kernel)]; kernel_rfl) | (rw [if_neg (by decide +kernel)]; exact ⟨rfl, rfl⟩))
    (fun os started H enc _ => lifted_ragrees os started H enc)
theorem regionAgrees_holds : Rows.RegionAgreesCardSaid :=
  Claim7.holds_tied_plain_at .later [] [.data, .handle, .widerDeep, .data, .data, .data] true (true, "4cc1806c6cf9f354c6d5eb1ac53c5af01547e4b11168f715a2048ac83dd927f7") true
    regionAgrees_row (fun _ h => by cases h) (by as_aux_lemma => kernel_rfl) (fun _ h => by cases h) regionAgrees_row_tie rfl ⟨rfl, rfl⟩ (by as_aux_lemma => kernel_rfl) rfl
    (fun f fn hf hfn => by
      obtain rfl : f = 6 := Option.some.inj ((show Tryz.prog.funcNamed "columbarium/columbariumlaw16.RegionAgrees" = some 6 by kernel_rfl).symm.trans hf) |>.symm
      obtain rfl : fn = Tryz.f6 := (Option.some.inj (Tryz.func6.symm.trans hfn)).symm
      exact ⟨by as_aux_lemma => kernel_rfl, fun j t ht => by
        rw [Tryz.params6] at ht
        have hm : t ∈ [77] := by simpa using Array.mem_of_getElem? ht
        have hall : ([77].all fun u => !Tryz.prog.wantsStandIn u) = true := by as_aux_lemma => kernel_rfl
        exact (show Tryz.prog.wantsStandIn t = false by simpa using List.all_eq_true.1 hall t hm)⟩)
    (by as_aux_lemma => kernel_rfl)
#print axioms regionAgrees_holds
end Go.Proofs.YtmemoopkgjgmiaaGreatDoor
