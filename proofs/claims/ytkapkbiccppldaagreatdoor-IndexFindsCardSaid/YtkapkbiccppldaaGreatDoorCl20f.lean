/- IndexFinds returns true at every input, and every argument reads as it did: the tied card; no condition. -/
import Derived.Test.YtkapkbiccppldaaGreatDoorRows
import Derived.Test.YtkapkbiccppldaaGreatDoorCards
import Derived.Test.YtkapkbiccppldaaGreatDoorTie
import Derived.Test.YtkapkbiccppldaaGreatDoorLaw20f
import Derived.Test.YtkapkbiccppldaaGreatDoorLaid15
import Derived.Test.YtkapkbiccppldaaGreatDoorKH
import Derived.WalkKit
import Derived.ProofKit
import Derived.LaidMore
import Derived.OpenShut
import Derived.Stop.Joined
import Derived.SevenTiedAt
import Derived.Lay
import Derived.ShutString
import Derived.ChangeOld
import Derived.Below
namespace Go.Proofs.YtkapkbiccppldaaGreatDoor
open Go.ChangeShapes Go.WideShapes Go.ChangeAt Go.RowKit
open Go.ChangeMaps (open_string shut_string)
set_option linter.unusedVariables false
set_option linter.unusedSimpArgs false

theorem ifinds_out : laidOutB Tryz.prog = true := by kernel_rfl
theorem ifinds_own : ownKnob Tryz.prog.godebug = none := by kernel_rfl
set_option maxRecDepth 100000 in
theorem lifted_ifinds (os : Os) (started : os.Started) (H : Type) (enc : TypeId × Value → H) :
    ReturnsInHanded {} Tryz.checked os 10 .any (fun w args => (Rows.indexFindsSpec.pre enc Tryz.prog Tryz.f10 Rows.indexFindsRow.domain false w args ∧ laidMetH Tryz.prog laid5 w) ∧ sizedMet enc Tryz.prog Tryz.f10 (OpenSpec.ofChange Rows.indexFindsSpec) false w args)
      (Rows.indexFindsSpec.post enc Tryz.prog Tryz.f10 false true false false) := by
  refine returnsInHanded_of_change_and (C := Tryz.checked) (X := fun w _ => laidMetH Tryz.prog laid5 w) (fun _ _ _ hh h => h.of_heap hh) ifinds_own started (by kernel_rfl) Tryz.func10
    (ChangeSpec.witness_shaped (enc := enc) (C := Tryz.checked) (os := os) (X := fun w _ => laidMetH Tryz.prog laid5 w) false (World.laidAll Tryz.prog os laid5) #[.slice none 0 0] 8 (World.laidAll_os _ _ _)
      (World.shaped_of_ZipB (by kernel_rfl) (by kernel_rfl)) (by kernel_rfl) (by kernel_rfl) (by kernel_rfl)
      (by rw [MakeChecks.laidMetH_plain _ _ _ (by kernel_rfl)]; exact laidMet_laidAll _ (by kernel_rfl) (by kernel_rfl))) ?_
  intro W base args ds gs before hval0 hW hcnd _ hL _
  have hval : ∀ (j : Nat) t v, Tryz.f10.params[j]? = some t → args[j]? = some v → Value.okWide Tryz.prog W .any base t v := hval0
  have hW' := hW
  obtain ⟨p, q, hA0, hV, rfl, hfz, hnd⟩ := hW
  have hA : DataW.TrodAll enc Tryz.prog W 0 (fun _ => true) true Tryz.f10.params.toList args.toList ds p := hA0
  rw [Tryz.params10] at hA hval
  obtain ⟨v0, vs0, d0, ds0, p0, q0, hargs, rfl, rfl, h0, r0⟩ := trodAll_cons hA
  obtain ⟨rfl, rfl, rfl⟩ := trodAll_nil r0
  obtain rfl : args = #[v0] := by cases args; simp_all
  obtain ⟨rfl, rfl⟩ := trodVars_none hV
  have k0 := h0
  have lt0 : ∀ x ∈ p0, x.block < W.heap.size := by obtain ⟨m, hm⟩ := k0; exact DataW.trod_lt m _ _ _ hm
  obtain ⟨a0, c0, l0, rfl, hb0⟩ := open_acts20 (hval 0 73 v0 rfl rfl) h0
  have hT := tabs5_of_laid hL
  clear hA0 hval0
  simp only [List.append_nil] at hW'
  refine (walk_ifindsW W hT a0 c0 l0 hb0).mono fun e W' ⟨he, hfr⟩ => ?_
  subst he
  have bel : Below W.heap.size W W' := hfr.below (Nat.le_refl _) (fun k hk => by simp at hk)
  exact ⟨_, rfl, _, _, _, [], _, [], hW', trodAll_mk1 (shut_bool Tryz.underlying4 _), (trodAll_cons_mk (Below.trod ifinds_out (by kernel_rfl) (of_decide_eq_true (by kernel_rfl)) k0 bel lt0) trodAll_mk0), rfl, bel.frame _, fun h => by cases h⟩

theorem ifinds_j0 : (Rows.indexFindsRow.wf (OpenSpec.ofChange Rows.indexFindsSpec)) = true := by kernel_rfl
theorem ifinds_j1 : (laidOutB Tryz.prog) = true := by kernel_rfl
theorem ifinds_j2 : (mapsRowed Tryz.prog) = true := by kernel_rfl
theorem ifinds_j3 : (Tryz.f10.params.all (Tryz.prog.readableRec ·)) = true := by kernel_rfl
theorem ifinds_j4 : (namedTie Tryz.prog Rows.indexFindsRow.named Rows.indexFindsSpec.vars) = true := by kernel_rfl
theorem ifinds_j5 : ((Rows.indexFindsRow.stops == [])) = true := by kernel_rfl
theorem ifinds_j6 : ((Tryz.prog.stops == [])) = true := by kernel_rfl
theorem ifinds_j7 : ((Rows.indexFindsRow.knobs == [])) = true := by kernel_rfl
theorem ifinds_j8 : ((Tryz.prog.stopKnobs == [])) = true := by kernel_rfl
theorem ifinds_j9 : ((Rows.indexFindsRow.inPlace == Tryz.prog.inPlace 10)) = true := by kernel_rfl
theorem ifinds_j10 : ((Rows.indexFindsRow.unfollowed == Tryz.prog.unfollowed 10)) = true := by kernel_rfl
theorem ifinds_j11 : ((Rows.indexFindsRow.recurses == Tryz.prog.recurses 10)) = true := by kernel_rfl
theorem ifinds_j12 : ((Rows.indexFindsRow.named == Tryz.prog.varsNamed 10)) = true := by kernel_rfl
theorem ifinds_j13 : ((Rows.indexFindsRow.maps == (Tryz.f10.params.toList ++ Rows.indexFindsSpec.plain.varTypes Tryz.prog).any (Tryz.prog.mapsRec ·))) = true := by kernel_rfl
theorem ifinds_j14 : ((Rows.indexFindsRow.ifaces == (Tryz.f10.params.toList ++ Rows.indexFindsSpec.plain.varTypes Tryz.prog).any (Tryz.prog.ifacesRec ·))) = true := by kernel_rfl
theorem ifinds_j15 : ((Rows.indexFindsRow.mapsOut == Tryz.prog.mapsAmong Tryz.f10.resultTypes.toList)) = true := by kernel_rfl
theorem ifinds_j16 : ((Rows.indexFindsRow.loops == (Tryz.f10.params.toList ++ Rows.indexFindsSpec.plain.varTypes Tryz.prog).any (Tryz.prog.loopsFrom ·))) = true := by kernel_rfl
theorem ifinds_j17 : ((Rows.indexFindsRow.wideKeys == (Tryz.f10.params.toList ++ Rows.indexFindsSpec.plain.varTypes Tryz.prog ++ Tryz.f10.resultTypes.toList).any (Tryz.prog.wideKeysFrom ·))) = true := by kernel_rfl
theorem ifinds_j18 : (Rows.indexFindsSpec.vars.all (Tryz.prog.varReadable ·)) = true := by kernel_rfl
theorem ifinds_j19 : (Tryz.f10.resultTypes.all (fun t => Tryz.prog.readableRec t && decide (t < Tryz.prog.types.size))) = true := by kernel_rfl
theorem ifinds_j20 : ((Rows.indexFindsRow.ifacesOut == Tryz.f10.resultTypes.toList.any (Tryz.prog.ifacesRec ·))) = true := by kernel_rfl
theorem ifinds_j21 : ((Rows.indexFindsRow.loopsOut == Tryz.f10.resultTypes.toList.any (Tryz.prog.loopsFrom ·))) = true := by kernel_rfl
theorem ifinds_j22 : ((Rows.indexFindsRow.plainKeys == Tryz.prog.plainKeys)) = true := by kernel_rfl
theorem ifinds_j23 : (Rows.indexFindsRow.shortTexts.isNone) = true := by kernel_rfl
theorem ifinds_j24 : (Tryz.prog.stopsHeard) = true := by kernel_rfl
theorem ifinds_j25 : (Tryz.prog.mayEnter) = true := by kernel_rfl
theorem ifinds_j26 : ((Rows.indexFindsRow.lifted == Tryz.prog.liftsFinal)) = true := by kernel_rfl
theorem ifinds_j27 : ((Tryz.prog.make == some Rows.indexFindsRow.make)) = true := by kernel_rfl
theorem ifinds_j29 : ((Rows.indexFindsRow.pinned == Rows.indexFindsRow.pinnedBy)) = true := by kernel_rfl
theorem ifinds_j30 : ((Rows.indexFindsRow.veiled == (Tryz.f10.params.toList ++ Rows.indexFindsSpec.plain.varTypes Tryz.prog ++ Tryz.f10.resultTypes.toList).any (Tryz.prog.veiledRec ·))) = true := by kernel_rfl
theorem ifinds_j31 : (Rows.indexFindsRow.veiledFits Tryz.prog Tryz.f10.params.toList (Tryz.f10.params.toList ++ Rows.indexFindsSpec.plain.varTypes Tryz.prog ++ Tryz.f10.resultTypes.toList)) = true := by kernel_rfl
theorem ifinds_and {a b : Bool} (h1 : a = true) (h2 : b = true) : (a && b) = true := by rw [h1, h2]; rfl
set_option maxRecDepth 100000 in
theorem ifinds_joined : joinedFacts Tryz.prog 10 Tryz.f10 Rows.indexFindsSpec Rows.indexFindsRow = true := by
  unfold joinedFacts
  refine (ifinds_and (ifinds_and (ifinds_and (ifinds_and (ifinds_and (ifinds_and (ifinds_and (ifinds_and (ifinds_and (ifinds_and (ifinds_and (ifinds_and (ifinds_and (ifinds_and (ifinds_and (ifinds_and (ifinds_and (ifinds_and (ifinds_and (ifinds_and (ifinds_and (ifinds_and (ifinds_and (ifinds_and (ifinds_and (ifinds_and (ifinds_and (ifinds_and (ifinds_and (ifinds_and (ifinds_and ifinds_j0 ifinds_j1) ifinds_j2) ifinds_j3) ifinds_j4) ifinds_j5) ifinds_j6) ifinds_j7) ifinds_j8) ifinds_j9) ifinds_j10) ifinds_j11) ifinds_j12) ifinds_j13) ifinds_j14) ifinds_j15) ifinds_j16) ifinds_j17) ifinds_j18) ifinds_j19) ifinds_j20) ifinds_j21) ifinds_j22) ifinds_j23) ifinds_j24) ifinds_j25) ifinds_j26) ifinds_j27) ?_) ifinds_j29) ifinds_j30) ifinds_j31)
  as_aux_lemma => kernel_rfl
theorem indexFinds_row : Rows.IndexFindsSaid :=
  OpenClaim.holds_of_wide 10 Tryz.f10 rfl rfl rfl rfl rfl rfl rfl ⟨rfl, rfl, rfl, rfl, rfl⟩ rfl rfl rfl rfl rfl (by as_aux_lemma => kernel_rfl) Tryz.func10 ifinds_joined
    (of_decide_eq_true (by as_aux_lemma => kernel_rfl)) (by as_aux_lemma => unfold Func.isWrapper; first | (rw [if_pos (by decide +kernel)]; kernel_rfl) | (rw [if_neg (by decide +kernel)]; exact ⟨rfl, rfl⟩))
    (fun os started H enc _ => lifted_ifinds os started H enc)
theorem indexFinds_holds : Rows.IndexFindsCardSaid :=
  Claim7.holds_tied_plain_at .later [] [.data, .widerDeep, .data, .data, .data] true (true, "0ccafe196cc1747ee087a7eadb183d06cce4d5f351445ab3427afae79d1f992a") false
    indexFinds_row (fun _ h => by cases h) (by as_aux_lemma => kernel_rfl) (fun _ h => by cases h) indexFinds_row_tie rfl ⟨rfl, rfl⟩ (by as_aux_lemma => kernel_rfl) rfl
    (fun f fn hf hfn => by
      obtain rfl : f = 10 := Option.some.inj ((show Tryz.prog.funcNamed "columbarium/columbariumlaw20.IndexFinds" = some 10 by kernel_rfl).symm.trans hf) |>.symm
      obtain rfl : fn = Tryz.f10 := (Option.some.inj (Tryz.func10.symm.trans hfn)).symm
      exact ⟨by as_aux_lemma => kernel_rfl, fun j t ht => by
        rw [Tryz.params10] at ht
        have hm : t ∈ [73] := by simpa using Array.mem_of_getElem? ht
        have hall : ([73].all fun u => !Tryz.prog.wantsStandIn u) = true := by as_aux_lemma => kernel_rfl
        exact (show Tryz.prog.wantsStandIn t = false by simpa using List.all_eq_true.1 hall t hm)⟩)
    (by as_aux_lemma => kernel_rfl)
#print axioms indexFinds_holds
end Go.Proofs.YtkapkbiccppldaaGreatDoor
