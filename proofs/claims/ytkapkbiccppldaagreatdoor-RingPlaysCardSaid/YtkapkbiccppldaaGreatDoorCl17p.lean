/- RingPlays returns true at every input, and every argument reads as it did: the tied card; no condition. -/
import Derived.Test.YtkapkbiccppldaaGreatDoorRows
import Derived.Test.YtkapkbiccppldaaGreatDoorCards
import Derived.Test.YtkapkbiccppldaaGreatDoorTie
import Derived.Test.YtkapkbiccppldaaGreatDoorLaw17p
import Derived.Test.YtkapkbiccppldaaGreatDoorLaid15
import Derived.Test.YtkapkbiccppldaaGreatDoorOpen17
import Derived.WalkKit
import Derived.ProofKit
import Derived.LaidMore
import Derived.OpenShut
import Derived.Stop.Joined
import Derived.SevenTiedAt
import Derived.Lay
import Derived.ShutString
import Derived.ChangeOld
import Derived.Below
namespace Go.Proofs.YtkapkbiccppldaaGreatDoor
open Go.ChangeShapes Go.WideShapes Go.ChangeAt Go.RowKit
open Go.ChangeMaps (open_string shut_string)
set_option linter.unusedVariables false
set_option linter.unusedSimpArgs false

theorem rplays_out : laidOutB Tryz.prog = true := by kernel_rfl
theorem rplays_own : ownKnob Tryz.prog.godebug = none := by kernel_rfl
set_option maxRecDepth 100000 in
theorem lifted_rplays (os : Os) (started : os.Started) (H : Type) (enc : TypeId × Value → H) :
    ReturnsInHanded {} Tryz.checked os 11 .any (fun w args => (Rows.ringPlaysSpec.pre enc Tryz.prog Tryz.f11 Rows.ringPlaysRow.domain false w args ∧ laidMetH Tryz.prog laid5 w) ∧ sizedMet enc Tryz.prog Tryz.f11 (OpenSpec.ofChange Rows.ringPlaysSpec) false w args)
      (Rows.ringPlaysSpec.post enc Tryz.prog Tryz.f11 false true false false) := by
  refine returnsInHanded_of_change_and (C := Tryz.checked) (X := fun w _ => laidMetH Tryz.prog laid5 w) (fun _ _ _ hh h => h.of_heap hh) rplays_own started (by kernel_rfl) Tryz.func11
    (ChangeSpec.witness_shaped (enc := enc) (C := Tryz.checked) (os := os) (X := fun w _ => laidMetH Tryz.prog laid5 w) false (World.laidAll Tryz.prog os laid5) #[.slice none 0 0] 8 (World.laidAll_os _ _ _)
      (World.shaped_of_ZipB (by kernel_rfl) (by kernel_rfl)) (by kernel_rfl) (by kernel_rfl) (by kernel_rfl)
      (by rw [MakeChecks.laidMetH_plain _ _ _ (by kernel_rfl)]; exact laidMet_laidAll _ (by kernel_rfl) (by kernel_rfl))) ?_
  intro W base args ds gs before hval0 hW hcnd _ hL _
  have hval : ∀ (j : Nat) t v, Tryz.f11.params[j]? = some t → args[j]? = some v → Value.okWide Tryz.prog W .any base t v := hval0
  have hW' := hW
  obtain ⟨p, q, hA0, hV, rfl, hfz, hnd⟩ := hW
  have hA : DataW.TrodAll enc Tryz.prog W 0 (fun _ => true) true Tryz.f11.params.toList args.toList ds p := hA0
  rw [Tryz.params11] at hA hval
  obtain ⟨v0, vs0, d0, ds0, p0, q0, hargs, rfl, rfl, h0, r0⟩ := trodAll_cons hA
  obtain ⟨rfl, rfl, rfl⟩ := trodAll_nil r0
  obtain rfl : args = #[v0] := by cases args; simp_all
  obtain ⟨rfl, rfl⟩ := trodVars_none hV
  have k0 := h0
  have lt0 : ∀ x ∈ p0, x.block < W.heap.size := by obtain ⟨m, hm⟩ := k0; exact DataW.trod_lt m _ _ _ hm
  obtain ⟨a0, c0, l0, rfl, hb0⟩ := open_acts17 (hval 0 68 v0 rfl rfl) h0
  have hT := tabs5_of_laid hL
  clear hA0 hval0
  simp only [List.append_nil] at hW'
  refine (walk_rplaysW W hT a0 c0 l0 hb0).mono fun e W' ⟨he, hfr⟩ => ?_
  subst he
  have bel : Below W.heap.size W W' := hfr.below (Nat.le_refl _) (fun k hk => by simp at hk)
  exact ⟨_, rfl, _, _, _, [], _, [], hW', trodAll_mk1 (shut_bool Tryz.underlying4 _), (trodAll_cons_mk (Below.trod rplays_out (by kernel_rfl) (of_decide_eq_true (by kernel_rfl)) k0 bel lt0) trodAll_mk0), rfl, bel.frame _, fun h => by cases h⟩

theorem rplays_j0 : (Rows.ringPlaysRow.wf (OpenSpec.ofChange Rows.ringPlaysSpec)) = true := by kernel_rfl
theorem rplays_j1 : (laidOutB Tryz.prog) = true := by kernel_rfl
theorem rplays_j2 : (mapsRowed Tryz.prog) = true := by kernel_rfl
theorem rplays_j3 : (Tryz.f11.params.all (Tryz.prog.readableRec ·)) = true := by kernel_rfl
theorem rplays_j4 : (namedTie Tryz.prog Rows.ringPlaysRow.named Rows.ringPlaysSpec.vars) = true := by kernel_rfl
theorem rplays_j5 : ((Rows.ringPlaysRow.stops == [])) = true := by kernel_rfl
theorem rplays_j6 : ((Tryz.prog.stops == [])) = true := by kernel_rfl
theorem rplays_j7 : ((Rows.ringPlaysRow.knobs == [])) = true := by kernel_rfl
theorem rplays_j8 : ((Tryz.prog.stopKnobs == [])) = true := by kernel_rfl
theorem rplays_j9 : ((Rows.ringPlaysRow.inPlace == Tryz.prog.inPlace 11)) = true := by kernel_rfl
theorem rplays_j10 : ((Rows.ringPlaysRow.unfollowed == Tryz.prog.unfollowed 11)) = true := by kernel_rfl
theorem rplays_j11 : ((Rows.ringPlaysRow.recurses == Tryz.prog.recurses 11)) = true := by kernel_rfl
theorem rplays_j12 : ((Rows.ringPlaysRow.named == Tryz.prog.varsNamed 11)) = true := by kernel_rfl
theorem rplays_j13 : ((Rows.ringPlaysRow.maps == (Tryz.f11.params.toList ++ Rows.ringPlaysSpec.plain.varTypes Tryz.prog).any (Tryz.prog.mapsRec ·))) = true := by kernel_rfl
theorem rplays_j14 : ((Rows.ringPlaysRow.ifaces == (Tryz.f11.params.toList ++ Rows.ringPlaysSpec.plain.varTypes Tryz.prog).any (Tryz.prog.ifacesRec ·))) = true := by kernel_rfl
theorem rplays_j15 : ((Rows.ringPlaysRow.mapsOut == Tryz.prog.mapsAmong Tryz.f11.resultTypes.toList)) = true := by kernel_rfl
theorem rplays_j16 : ((Rows.ringPlaysRow.loops == (Tryz.f11.params.toList ++ Rows.ringPlaysSpec.plain.varTypes Tryz.prog).any (Tryz.prog.loopsFrom ·))) = true := by kernel_rfl
theorem rplays_j17 : ((Rows.ringPlaysRow.wideKeys == (Tryz.f11.params.toList ++ Rows.ringPlaysSpec.plain.varTypes Tryz.prog ++ Tryz.f11.resultTypes.toList).any (Tryz.prog.wideKeysFrom ·))) = true := by kernel_rfl
theorem rplays_j18 : (Rows.ringPlaysSpec.vars.all (Tryz.prog.varReadable ·)) = true := by kernel_rfl
theorem rplays_j19 : (Tryz.f11.resultTypes.all (fun t => Tryz.prog.readableRec t && decide (t < Tryz.prog.types.size))) = true := by kernel_rfl
theorem rplays_j20 : ((Rows.ringPlaysRow.ifacesOut == Tryz.f11.resultTypes.toList.any (Tryz.prog.ifacesRec ·))) = true := by kernel_rfl
theorem rplays_j21 : ((Rows.ringPlaysRow.loopsOut == Tryz.f11.resultTypes.toList.any (Tryz.prog.loopsFrom ·))) = true := by kernel_rfl
theorem rplays_j22 : ((Rows.ringPlaysRow.plainKeys == Tryz.prog.plainKeys)) = true := by kernel_rfl
theorem rplays_j23 : (Rows.ringPlaysRow.shortTexts.isNone) = true := by kernel_rfl
theorem rplays_j24 : (Tryz.prog.stopsHeard) = true := by kernel_rfl
theorem rplays_j25 : (Tryz.prog.mayEnter) = true := by kernel_rfl
theorem rplays_j26 : ((Rows.ringPlaysRow.lifted == Tryz.prog.liftsFinal)) = true := by kernel_rfl
theorem rplays_j27 : ((Tryz.prog.make == some Rows.ringPlaysRow.make)) = true := by kernel_rfl
theorem rplays_j29 : ((Rows.ringPlaysRow.pinned == Rows.ringPlaysRow.pinnedBy)) = true := by kernel_rfl
theorem rplays_j30 : ((Rows.ringPlaysRow.veiled == (Tryz.f11.params.toList ++ Rows.ringPlaysSpec.plain.varTypes Tryz.prog ++ Tryz.f11.resultTypes.toList).any (Tryz.prog.veiledRec ·))) = true := by kernel_rfl
theorem rplays_j31 : (Rows.ringPlaysRow.veiledFits Tryz.prog Tryz.f11.params.toList (Tryz.f11.params.toList ++ Rows.ringPlaysSpec.plain.varTypes Tryz.prog ++ Tryz.f11.resultTypes.toList)) = true := by kernel_rfl
theorem rplays_and {a b : Bool} (h1 : a = true) (h2 : b = true) : (a && b) = true := by rw [h1, h2]; rfl
set_option maxRecDepth 100000 in
theorem rplays_joined : joinedFacts Tryz.prog 11 Tryz.f11 Rows.ringPlaysSpec Rows.ringPlaysRow = true := by
  unfold joinedFacts
  refine (rplays_and (rplays_and (rplays_and (rplays_and (rplays_and (rplays_and (rplays_and (rplays_and (rplays_and (rplays_and (rplays_and (rplays_and (rplays_and (rplays_and (rplays_and (rplays_and (rplays_and (rplays_and (rplays_and (rplays_and (rplays_and (rplays_and (rplays_and (rplays_and (rplays_and (rplays_and (rplays_and (rplays_and (rplays_and (rplays_and (rplays_and rplays_j0 rplays_j1) rplays_j2) rplays_j3) rplays_j4) rplays_j5) rplays_j6) rplays_j7) rplays_j8) rplays_j9) rplays_j10) rplays_j11) rplays_j12) rplays_j13) rplays_j14) rplays_j15) rplays_j16) rplays_j17) rplays_j18) rplays_j19) rplays_j20) rplays_j21) rplays_j22) rplays_j23) rplays_j24) rplays_j25) rplays_j26) rplays_j27) ?_) rplays_j29) rplays_j30) rplays_j31)
  as_aux_lemma => kernel_rfl
theorem ringPlays_row : Rows.RingPlaysSaid :=
  OpenClaim.holds_of_wide 11 Tryz.f11 rfl rfl rfl rfl rfl rfl rfl ⟨rfl, rfl, rfl, rfl, rfl⟩ rfl rfl rfl rfl rfl (by as_aux_lemma => kernel_rfl) Tryz.func11 rplays_joined
    (of_decide_eq_true (by as_aux_lemma => kernel_rfl)) (by as_aux_lemma => unfold Func.isWrapper; first | (rw [if_pos (by decide +kernel)]; kernel_rfl) | (rw [if_neg (by decide +kernel)]; exact ⟨rfl, rfl⟩))
    (fun os started H enc _ => lifted_rplays os started H enc)
theorem ringPlays_holds : Rows.RingPlaysCardSaid :=
  Claim7.holds_tied_plain_at .later [] [.data, .widerDeep, .data, .data, .data] true (true, "0ccafe196cc1747ee087a7eadb183d06cce4d5f351445ab3427afae79d1f992a") false
    ringPlays_row (fun _ h => by cases h) (by as_aux_lemma => kernel_rfl) (fun _ h => by cases h) ringPlays_row_tie rfl ⟨rfl, rfl⟩ (by as_aux_lemma => kernel_rfl) rfl
    (fun f fn hf hfn => by
      obtain rfl : f = 11 := Option.some.inj ((show Tryz.prog.funcNamed "columbarium/columbariumlaw17.RingPlays" = some 11 by kernel_rfl).symm.trans hf) |>.symm
      obtain rfl : fn = Tryz.f11 := (Option.some.inj (Tryz.func11.symm.trans hfn)).symm
      exact ⟨by as_aux_lemma => kernel_rfl, fun j t ht => by
        rw [Tryz.params11] at ht
        have hm : t ∈ [68] := by simpa using Array.mem_of_getElem? ht
        have hall : ([68].all fun u => !Tryz.prog.wantsStandIn u) = true := by as_aux_lemma => kernel_rfl
        exact (show Tryz.prog.wantsStandIn t = false by simpa using List.all_eq_true.1 hall t hm)⟩)
    (by as_aux_lemma => kernel_rfl)
#print axioms ringPlays_holds
end Go.Proofs.YtkapkbiccppldaaGreatDoor
