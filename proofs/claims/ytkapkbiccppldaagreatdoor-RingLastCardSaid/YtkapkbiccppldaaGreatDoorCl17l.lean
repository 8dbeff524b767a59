/- RingLast returns true at every input, and every argument reads as it did: the tied card; no condition. -/
import Derived.Test.YtkapkbiccppldaaGreatDoorRows
import Derived.Test.YtkapkbiccppldaaGreatDoorCards
import Derived.Test.YtkapkbiccppldaaGreatDoorTie
import Derived.Test.YtkapkbiccppldaaGreatDoorLaw17l
import Derived.Test.YtkapkbiccppldaaGreatDoorLaid15
import Derived.Test.YtkapkbiccppldaaGreatDoorOpen17
import Derived.WalkKit
import Derived.ProofKit
import Derived.LaidMore
import Derived.OpenShut
import Derived.Stop.Joined
import Derived.SevenTiedAt
import Derived.Lay
import Derived.ShutString
import Derived.ChangeOld
import Derived.Below
namespace Go.Proofs.YtkapkbiccppldaaGreatDoor
open Go.ChangeShapes Go.WideShapes Go.ChangeAt Go.RowKit
open Go.ChangeMaps (open_string shut_string)
set_option linter.unusedVariables false
set_option linter.unusedSimpArgs false

theorem rlast_out : laidOutB Tryz.prog = true := by kernel_rfl
theorem rlast_own : ownKnob Tryz.prog.godebug = none := by kernel_rfl
set_option maxRecDepth 100000 in
theorem lifted_rlast (os : Os) (started : os.Started) (H : Type) (enc : TypeId × Value → H) :
    ReturnsInHanded {} Tryz.checked os 8 .any (fun w args => (Rows.ringLastSpec.pre enc Tryz.prog Tryz.f8 Rows.ringLastRow.domain false w args ∧ laidMetH Tryz.prog laid5 w) ∧ sizedMet enc Tryz.prog Tryz.f8 (OpenSpec.ofChange Rows.ringLastSpec) false w args)
      (Rows.ringLastSpec.post enc Tryz.prog Tryz.f8 false true false false) := by
  refine returnsInHanded_of_change_and (C := Tryz.checked) (X := fun w _ => laidMetH Tryz.prog laid5 w) (fun _ _ _ hh h => h.of_heap hh) rlast_own started (by kernel_rfl) Tryz.func8
    (ChangeSpec.witness_shaped (enc := enc) (C := Tryz.checked) (os := os) (X := fun w _ => laidMetH Tryz.prog laid5 w) false (World.laidAll Tryz.prog os laid5) #[.slice none 0 0] 8 (World.laidAll_os _ _ _)
      (World.shaped_of_ZipB (by kernel_rfl) (by kernel_rfl)) (by kernel_rfl) (by kernel_rfl) (by kernel_rfl)
      (by rw [MakeChecks.laidMetH_plain _ _ _ (by kernel_rfl)]; exact laidMet_laidAll _ (by kernel_rfl) (by kernel_rfl))) ?_
  intro W base args ds gs before hval0 hW hcnd _ hL _
  have hval : ∀ (j : Nat) t v, Tryz.f8.params[j]? = some t → args[j]? = some v → Value.okWide Tryz.prog W .any base t v := hval0
  have hW' := hW
  obtain ⟨p, q, hA0, hV, rfl, hfz, hnd⟩ := hW
  have hA : DataW.TrodAll enc Tryz.prog W 0 (fun _ => true) true Tryz.f8.params.toList args.toList ds p := hA0
  rw [Tryz.params8] at hA hval
  obtain ⟨v0, vs0, d0, ds0, p0, q0, hargs, rfl, rfl, h0, r0⟩ := trodAll_cons hA
  obtain ⟨rfl, rfl, rfl⟩ := trodAll_nil r0
  obtain rfl : args = #[v0] := by cases args; simp_all
  obtain ⟨rfl, rfl⟩ := trodVars_none hV
  have k0 := h0
  have lt0 : ∀ x ∈ p0, x.block < W.heap.size := by obtain ⟨m, hm⟩ := k0; exact DataW.trod_lt m _ _ _ hm
  obtain ⟨a0, c0, l0, rfl, hb0⟩ := open_acts17 (hval 0 68 v0 rfl rfl) h0
  have hT := tabs5_of_laid hL
  clear hA0 hval0
  simp only [List.append_nil] at hW'
  refine (walk_rlastW W hT a0 c0 l0 hb0).mono fun e W' ⟨he, hfr⟩ => ?_
  subst he
  have bel : Below W.heap.size W W' := hfr.below (Nat.le_refl _) (fun k hk => by simp at hk)
  exact ⟨_, rfl, _, _, _, [], _, [], hW', trodAll_mk1 (shut_bool Tryz.underlying4 _), (trodAll_cons_mk (Below.trod rlast_out (by kernel_rfl) (of_decide_eq_true (by kernel_rfl)) k0 bel lt0) trodAll_mk0), rfl, bel.frame _, fun h => by cases h⟩

theorem rlast_j0 : (Rows.ringLastRow.wf (OpenSpec.ofChange Rows.ringLastSpec)) = true := by kernel_rfl
theorem rlast_j1 : (laidOutB Tryz.prog) = true := by kernel_rfl
theorem rlast_j2 : (mapsRowed Tryz.prog) = true := by kernel_rfl
theorem rlast_j3 : (Tryz.f8.params.all (Tryz.prog.readableRec ·)) = true := by kernel_rfl
theorem rlast_j4 : (namedTie Tryz.prog Rows.ringLastRow.named Rows.ringLastSpec.vars) = true := by kernel_rfl
theorem rlast_j5 : ((Rows.ringLastRow.stops == [])) = true := by kernel_rfl
theorem rlast_j6 : ((Tryz.prog.stops == [])) = true := by kernel_rfl
theorem rlast_j7 : ((Rows.ringLastRow.knobs == [])) = true := by kernel_rfl
theorem rlast_j8 : ((Tryz.prog.stopKnobs == [])) = true := by kernel_rfl
theorem rlast_j9 : ((Rows.ringLastRow.inPlace == Tryz.prog.inPlace 8)) = true := by kernel_rfl
theorem rlast_j10 : ((Rows.ringLastRow.unfollowed == Tryz.prog.unfollowed 8)) = true := by kernel_rfl
theorem rlast_j11 : ((Rows.ringLastRow.recurses == Tryz.prog.recurses 8)) = true := by kernel_rfl
theorem rlast_j12 : ((Rows.ringLastRow.named == Tryz.prog.varsNamed 8)) = true := by kernel_rfl
theorem rlast_j13 : ((Rows.ringLastRow.maps == (Tryz.f8.params.toList ++ Rows.ringLastSpec.plain.varTypes Tryz.prog).any (Tryz.prog.mapsRec ·))) = true := by kernel_rfl
theorem rlast_j14 : ((Rows.ringLastRow.ifaces == (Tryz.f8.params.toList ++ Rows.ringLastSpec.plain.varTypes Tryz.prog).any (Tryz.prog.ifacesRec ·))) = true := by kernel_rfl
theorem rlast_j15 : ((Rows.ringLastRow.mapsOut == Tryz.prog.mapsAmong Tryz.f8.resultTypes.toList)) = true := by kernel_rfl
theorem rlast_j16 : ((Rows.ringLastRow.loops == (Tryz.f8.params.toList ++ Rows.ringLastSpec.plain.varTypes Tryz.prog).any (Tryz.prog.loopsFrom ·))) = true := by kernel_rfl
theorem rlast_j17 : ((Rows.ringLastRow.wideKeys == (Tryz.f8.params.toList ++ Rows.ringLastSpec.plain.varTypes Tryz.prog ++ Tryz.f8.resultTypes.toList).any (Tryz.prog.wideKeysFrom ·))) = true := by kernel_rfl
theorem rlast_j18 : (Rows.ringLastSpec.vars.all (Tryz.prog.varReadable ·)) = true := by kernel_rfl
theorem rlast_j19 : (Tryz.f8.resultTypes.all (fun t => Tryz.prog.readableRec t && decide (t < Tryz.prog.types.size))) = true := by kernel_rfl
theorem rlast_j20 : ((Rows.ringLastRow.ifacesOut == Tryz.f8.resultTypes.toList.any (Tryz.prog.ifacesRec ·))) = true := by kernel_rfl
theorem rlast_j21 : ((Rows.ringLastRow.loopsOut == Tryz.f8.resultTypes.toList.any (Tryz.prog.loopsFrom ·))) = true := by kernel_rfl
theorem rlast_j22 : ((Rows.ringLastRow.plainKeys == Tryz.prog.plainKeys)) = true := by kernel_rfl
theorem rlast_j23 : (Rows.ringLastRow.shortTexts.isNone) = true := by kernel_rfl
theorem rlast_j24 : (Tryz.prog.stopsHeard) = true := by kernel_rfl
theorem rlast_j25 : (Tryz.prog.mayEnter) = true := by kernel_rfl
theorem rlast_j26 : ((Rows.ringLastRow.lifted == Tryz.prog.liftsFinal)) = true := by kernel_rfl
theorem rlast_j27 : ((Tryz.prog.make == some Rows.ringLastRow.make)) = true := by kernel_rfl
theorem rlast_j29 : ((Rows.ringLastRow.pinned == Rows.ringLastRow.pinnedBy)) = true := by kernel_rfl
theorem rlast_j30 : ((Rows.ringLastRow.veiled == (Tryz.f8.params.toList ++ Rows.ringLastSpec.plain.varTypes Tryz.prog ++ Tryz.f8.resultTypes.toList).any (Tryz.prog.veiledRec ·))) = true := by kernel_rfl
theorem rlast_j31 : (Rows.ringLastRow.veiledFits Tryz.prog Tryz.f8.params.toList (Tryz.f8.params.toList ++ Rows.ringLastSpec.plain.varTypes Tryz.prog ++ Tryz.f8.resultTypes.toList)) = true := by kernel_rfl
theorem rlast_and {a b : Bool} (h1 : a = true) (h2 : b = true) : (a && b) = true := by rw [h1, h2]; rfl
set_option maxRecDepth 100000 in
theorem rlast_joined : joinedFacts Tryz.prog 8 Tryz.f8 Rows.ringLastSpec Rows.ringLastRow = true := by
  unfold joinedFacts
  refine (rlast_and (rlast_and (rlast_and (rlast_and (rlast_and (rlast_and (rlast_and (rlast_and (rlast_and (rlast_and (rlast_and (rlast_and (rlast_and (rlast_and (rlast_and (rlast_and (rlast_and (rlast_and (rlast_and (rlast_and (rlast_and (rlast_and (rlast_and (rlast_and (rlast_and (rlast_and (rlast_and (rlast_and (rlast_and (rlast_and (rlast_and rlast_j0 rlast_j1) rlast_j2) rlast_j3) rlast_j4) rlast_j5) rlast_j6) rlast_j7) rlast_j8) rlast_j9) rlast_j10) rlast_j11) rlast_j12) rlast_j13) rlast_j14) rlast_j15) rlast_j16) rlast_j17) rlast_j18) rlast_j19) rlast_j20) rlast_j21) rlast_j22) rlast_j23) rlast_j24) rlast_j25) rlast_j26) rlast_j27) ?_) rlast_j29) rlast_j30) rlast_j31)
  as_aux_lemma => kernel_rfl
theorem ringLast_row : Rows.RingLastSaid :=
  OpenClaim.holds_of_wide 8 Tryz.f8 rfl rfl rfl rfl rfl rfl rfl ⟨rfl, rfl, rfl, rfl, rfl⟩ rfl rfl rfl rfl rfl (by as_aux_lemma => kernel_rfl) Tryz.func8 rlast_joined
    (of_decide_eq_true (by as_aux_lemma => kernel_rfl)) (by as_aux_lemma => unfold Func.isWrapper; first | (rw [if_pos (by decide +kernel)]; kernel_rfl) | (rw [if_neg (by decide +kernel)]; exact ⟨rfl, rfl⟩))
    (fun os started H enc _ => lifted_rlast os started H enc)
theorem ringLast_holds : Rows.RingLastCardSaid :=
  Claim7.holds_tied_plain_at .later [] [.data, .widerDeep, .data, .data, .data] true (true, "0ccafe196cc1747ee087a7eadb183d06cce4d5f351445ab3427afae79d1f992a") false
    ringLast_row (fun _ h => by cases h) (by as_aux_lemma => kernel_rfl) (fun _ h => by cases h) ringLast_row_tie rfl ⟨rfl, rfl⟩ (by as_aux_lemma => kernel_rfl) rfl
    (fun f fn hf hfn => by
      obtain rfl : f = 8 := Option.some.inj ((show Tryz.prog.funcNamed "columbarium/columbariumlaw17.RingLast" = some 8 by kernel_rfl).symm.trans hf) |>.symm
      obtain rfl : fn = Tryz.f8 := (Option.some.inj (Tryz.func8.symm.trans hfn)).symm
      exact ⟨by as_aux_lemma => kernel_rfl, fun j t ht => by
        rw [Tryz.params8] at ht
        have hm : t ∈ [68] := by simpa using Array.mem_of_getElem? ht
        have hall : ([68].all fun u => !Tryz.prog.wantsStandIn u) = true := by as_aux_lemma => kernel_rfl
        exact (show Tryz.prog.wantsStandIn t = false by simpa using List.all_eq_true.1 hall t hm)⟩)
    (by as_aux_lemma => kernel_rfl)
#print axioms ringLast_holds
end Go.Proofs.YtkapkbiccppldaaGreatDoor
