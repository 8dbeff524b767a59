/- RingRound returns true at every input, and every argument reads as it did: the tied card; no condition. -/
import Derived.Test.YtkapkbiccppldaaGreatDoorRows
import Derived.Test.YtkapkbiccppldaaGreatDoorCards
import Derived.Test.YtkapkbiccppldaaGreatDoorTie
import Derived.Test.YtkapkbiccppldaaGreatDoorLaw17r
import Derived.Test.YtkapkbiccppldaaGreatDoorLaid15
import Derived.WalkKit
import Derived.ProofKit
import Derived.LaidMore
import Derived.OpenShut
import Derived.Stop.Joined
import Derived.SevenTiedAt
import Derived.Lay
import Derived.ShutString
import Derived.ChangeOld
import Derived.Below
namespace Go.Proofs.YtkapkbiccppldaaGreatDoor
open Go.ChangeShapes Go.WideShapes Go.ChangeAt Go.RowKit
open Go.ChangeMaps (open_string shut_string)
set_option linter.unusedVariables false
set_option linter.unusedSimpArgs false

theorem rround_out : laidOutB Tryz.prog = true := by kernel_rfl
theorem rround_own : ownKnob Tryz.prog.godebug = none := by kernel_rfl
set_option maxRecDepth 100000 in
theorem lifted_rround (os : Os) (started : os.Started) (H : Type) (enc : TypeId × Value → H) :
    ReturnsInHanded {} Tryz.checked os 7 .any (fun w args => (Rows.ringRoundSpec.pre enc Tryz.prog Tryz.f7 Rows.ringRoundRow.domain false w args ∧ laidMetH Tryz.prog laid5 w) ∧ sizedMet enc Tryz.prog Tryz.f7 (OpenSpec.ofChange Rows.ringRoundSpec) false w args)
      (Rows.ringRoundSpec.post enc Tryz.prog Tryz.f7 false true false false) := by
  refine returnsInHanded_of_change_and (C := Tryz.checked) (X := fun w _ => laidMetH Tryz.prog laid5 w) (fun _ _ _ hh h => h.of_heap hh) rround_own started (by kernel_rfl) Tryz.func7
    (ChangeSpec.witness_shaped (enc := enc) (C := Tryz.checked) (os := os) (X := fun w _ => laidMetH Tryz.prog laid5 w) false (World.laidAll Tryz.prog os laid5) #[.int .i64 0, .int .i64 0] 8 (World.laidAll_os _ _ _)
      (World.shaped_of_ZipB (by kernel_rfl) (by kernel_rfl)) (by kernel_rfl) (by kernel_rfl) (by kernel_rfl)
      (by rw [MakeChecks.laidMetH_plain _ _ _ (by kernel_rfl)]; exact laidMet_laidAll _ (by kernel_rfl) (by kernel_rfl))) ?_
  intro W base args ds gs before hval0 hW hcnd _ hL _
  have hval : ∀ (j : Nat) t v, Tryz.f7.params[j]? = some t → args[j]? = some v → Value.okWide Tryz.prog W .any base t v := hval0
  have hW' := hW
  obtain ⟨p, q, hA0, hV, rfl, hfz, hnd⟩ := hW
  have hA : DataW.TrodAll enc Tryz.prog W 0 (fun _ => true) true Tryz.f7.params.toList args.toList ds p := hA0
  rw [Tryz.params7] at hA hval
  obtain ⟨v0, vs0, d0, ds0, p0, q0, hargs, rfl, rfl, h0, r0⟩ := trodAll_cons hA
  obtain ⟨v1, vs1, d1, ds1, p1, q1, rfl, rfl, rfl, h1, r1⟩ := trodAll_cons r0
  obtain ⟨rfl, rfl, rfl⟩ := trodAll_nil r1
  obtain rfl : args = #[v0, v1] := by cases args; simp_all
  obtain ⟨rfl, rfl⟩ := trodVars_none hV
  obtain ⟨a0, rfl, rfl, rfl, w0⟩ := open_int Tryz.underlying3 (hval 0 3 v0 rfl rfl) h0
  obtain ⟨a1, rfl, rfl, rfl, w1⟩ := open_int Tryz.underlying3 (hval 1 3 v1 rfl rfl) h1
  have hT := tabs5_of_laid hL
  clear hA0 hval0
  simp only [List.append_nil] at hW'
  refine (walk_rroundW W hT a0 a1).mono fun e W' ⟨he, hfr⟩ => ?_
  subst he
  have bel : Below W.heap.size W W' := hfr.below (Nat.le_refl _) (fun k hk => by simp at hk)
  exact ⟨_, rfl, _, _, _, [], _, [], hW', trodAll_mk1 (shut_bool Tryz.underlying4 _), (trodAll_cons_mk (shut_int Tryz.underlying3 w0) (trodAll_cons_mk (shut_int Tryz.underlying3 w1) trodAll_mk0)), rfl, bel.frame _, fun h => by cases h⟩

theorem rround_j0 : (Rows.ringRoundRow.wf (OpenSpec.ofChange Rows.ringRoundSpec)) = true := by kernel_rfl
theorem rround_j1 : (laidOutB Tryz.prog) = true := by kernel_rfl
theorem rround_j2 : (mapsRowed Tryz.prog) = true := by kernel_rfl
theorem rround_j3 : (Tryz.f7.params.all (Tryz.prog.readableRec ·)) = true := by kernel_rfl
theorem rround_j4 : (namedTie Tryz.prog Rows.ringRoundRow.named Rows.ringRoundSpec.vars) = true := by kernel_rfl
theorem rround_j5 : ((Rows.ringRoundRow.stops == [])) = true := by kernel_rfl
theorem rround_j6 : ((Tryz.prog.stops == [])) = true := by kernel_rfl
theorem rround_j7 : ((Rows.ringRoundRow.knobs == [])) = true := by kernel_rfl
theorem rround_j8 : ((Tryz.prog.stopKnobs == [])) = true := by kernel_rfl
theorem rround_j9 : ((Rows.ringRoundRow.inPlace == Tryz.prog.inPlace 7)) = true := by kernel_rfl
theorem rround_j10 : ((Rows.ringRoundRow.unfollowed == Tryz.prog.unfollowed 7)) = true := by kernel_rfl
theorem rround_j11 : ((Rows.ringRoundRow.recurses == Tryz.prog.recurses 7)) = true := by kernel_rfl
theorem rround_j12 : ((Rows.ringRoundRow.named == Tryz.prog.varsNamed 7)) = true := by kernel_rfl
theorem rround_j13 : ((Rows.ringRoundRow.maps == (Tryz.f7.params.toList ++ Rows.ringRoundSpec.plain.varTypes Tryz.prog).any (Tryz.prog.mapsRec ·))) = true := by kernel_rfl
theorem rround_j14 : ((Rows.ringRoundRow.ifaces == (Tryz.f7.params.toList ++ Rows.ringRoundSpec.plain.varTypes Tryz.prog).any (Tryz.prog.ifacesRec ·))) = true := by kernel_rfl
theorem rround_j15 : ((Rows.ringRoundRow.mapsOut == Tryz.prog.mapsAmong Tryz.f7.resultTypes.toList)) = true := by kernel_rfl
theorem rround_j16 : ((Rows.ringRoundRow.loops == (Tryz.f7.params.toList ++ Rows.ringRoundSpec.plain.varTypes Tryz.prog).any (Tryz.prog.loopsFrom ·))) = true := by kernel_rfl
theorem rround_j17 : ((Rows.ringRoundRow.wideKeys == (Tryz.f7.params.toList ++ Rows.ringRoundSpec.plain.varTypes Tryz.prog ++ Tryz.f7.resultTypes.toList).any (Tryz.prog.wideKeysFrom ·))) = true := by kernel_rfl
theorem rround_j18 : (Rows.ringRoundSpec.vars.all (Tryz.prog.varReadable ·)) = true := by kernel_rfl
theorem rround_j19 : (Tryz.f7.resultTypes.all (fun t => Tryz.prog.readableRec t && decide (t < Tryz.prog.types.size))) = true := by kernel_rfl
theorem rround_j20 : ((Rows.ringRoundRow.ifacesOut == Tryz.f7.resultTypes.toList.any (Tryz.prog.ifacesRec ·))) = true := by kernel_rfl
theorem rround_j21 : ((Rows.ringRoundRow.loopsOut == Tryz.f7.resultTypes.toList.any (Tryz.prog.loopsFrom ·))) = true := by kernel_rfl
theorem rround_j22 : ((Rows.ringRoundRow.plainKeys == Tryz.prog.plainKeys)) = true := by kernel_rfl
theorem rround_j23 : (Rows.ringRoundRow.shortTexts.isNone) = true := by kernel_rfl
theorem rround_j24 : (Tryz.prog.stopsHeard) = true := by kernel_rfl
theorem rround_j25 : (Tryz.prog.mayEnter) = true := by kernel_rfl
theorem rround_j26 : ((Rows.ringRoundRow.lifted == Tryz.prog.liftsFinal)) = true := by kernel_rfl
theorem rround_j27 : ((Tryz.prog.make == some Rows.ringRoundRow.make)) = true := by kernel_rfl
theorem rround_j29 : ((Rows.ringRoundRow.pinned == Rows.ringRoundRow.pinnedBy)) = true := by kernel_rfl
theorem rround_j30 : ((Rows.ringRoundRow.veiled == (Tryz.f7.params.toList ++ Rows.ringRoundSpec.plain.varTypes Tryz.prog ++ Tryz.f7.resultTypes.toList).any (Tryz.prog.veiledRec ·))) = true := by kernel_rfl
theorem rround_j31 : (Rows.ringRoundRow.veiledFits Tryz.prog Tryz.f7.params.toList (Tryz.f7.params.toList ++ Rows.ringRoundSpec.plain.varTypes Tryz.prog ++ Tryz.f7.resultTypes.toList)) = true := by kernel_rfl
theorem rround_and {a b : Bool} (h1 : a = true) (h2 : b = true) : (a && b) = true := by rw [h1, h2]; rfl
set_option maxRecDepth 100000 in
theorem rround_joined : joinedFacts Tryz.prog 7 Tryz.f7 Rows.ringRoundSpec Rows.ringRoundRow = true := by
  unfold joinedFacts
  refine (rround_and (rround_and (rround_and (rround_and (rround_and (rround_and (rround_and (rround_and (rround_and (rround_and (rround_and (rround_and (rround_and (rround_and (rround_and (rround_and (rround_and (rround_and (rround_and (rround_and (rround_and (rround_and (rround_and (rround_and (rround_and (rround_and (rround_and (rround_and (rround_and (rround_and (rround_and rround_j0 rround_j1) rround_j2) rround_j3) rround_j4) rround_j5) rround_j6) rround_j7) rround_j8) rround_j9) rround_j10) rround_j11) rround_j12) rround_j13) rround_j14) rround_j15) rround_j16) rround_j17) rround_j18) rround_j19) rround_j20) rround_j21) rround_j22) rround_j23) rround_j24) rround_j25) rround_j26) rround_j27) ?_) rround_j29) rround_j30) rround_j31)
  as_aux_lemma => kernel_rfl
theorem ringRound_row : Rows.RingRoundSaid :=
  OpenClaim.holds_of_wide 7 Tryz.f7 rfl rfl rfl rfl rfl rfl rfl ⟨rfl, rfl, rfl, rfl, rfl⟩ rfl rfl rfl rfl rfl (by as_aux_lemma => kernel_rfl) Tryz.func7 rround_joined
    (of_decide_eq_true (by as_aux_lemma => kernel_rfl)) (by as_aux_lemma => unfold Func.isWrapper; first | (rw [if_pos (by decide +kernel)]; kernel_rfl) | (rw [if_neg (by decide +kernel)]; exact ⟨rfl, rfl⟩))
    (fun os started H enc _ => lifted_rround os started H enc)
theorem ringRound_holds : Rows.RingRoundCardSaid :=
  Claim7.holds_tied_plain_at .later [] [.data, .widerDeep, .data, .data, .data] true (true, "0ccafe196cc1747ee087a7eadb183d06cce4d5f351445ab3427afae79d1f992a") false
    ringRound_row (fun _ h => by cases h) (by as_aux_lemma => kernel_rfl) (fun _ h => by cases h) ringRound_row_tie rfl ⟨rfl, rfl⟩ (by as_aux_lemma => kernel_rfl) rfl
    (fun f fn hf hfn => by
      obtain rfl : f = 7 := Option.some.inj ((show Tryz.prog.funcNamed "columbarium/columbariumlaw17.RingRound" = some 7 by kernel_rfl).symm.trans hf) |>.symm
      obtain rfl : fn = Tryz.f7 := (Option.some.inj (Tryz.func7.symm.trans hfn)).symm
      exact ⟨by as_aux_lemma => kernel_rfl, fun j t ht => by
        rw [Tryz.params7] at ht
        have hm : t ∈ [3, 3] := by simpa using Array.mem_of_getElem? ht
        have hall : ([3, 3].all fun u => !Tryz.prog.wantsStandIn u) = true := by as_aux_lemma => kernel_rfl
        exact (show Tryz.prog.wantsStandIn t = false by simpa using List.all_eq_true.1 hall t hm)⟩)
    (by as_aux_lemma => kernel_rfl)
#print axioms ringRound_holds
end Go.Proofs.YtkapkbiccppldaaGreatDoor
