/- SlabClean returns true at every input, and every argument reads as it did: the tied card; no condition. -/
import Derived.Test.YtkapkbiccppldaaGreatDoorRows
import Derived.Test.YtkapkbiccppldaaGreatDoorCards
import Derived.Test.YtkapkbiccppldaaGreatDoorTie
import Derived.Test.YtkapkbiccppldaaGreatDoorLaw15c
import Derived.Test.YtkapkbiccppldaaGreatDoorLaid15
import Derived.Test.YtkapkbiccppldaaGreatDoorGN
import Derived.Test.YtkapkbiccppldaaGreatDoorHxs
import Derived.Test.YtkapkbiccppldaaGreatDoorGP
import Derived.WalkKit
import Derived.ProofKit
import Derived.LaidMore
import Derived.OpenShut
import Derived.Stop.Joined
import Derived.SevenTiedAt
import Derived.Lay
import Derived.ShutString
import Derived.ChangeOld
import Derived.Below
namespace Go.Proofs.YtkapkbiccppldaaGreatDoor
open Go.ChangeShapes Go.WideShapes Go.ChangeAt Go.RowKit
open Go.ChangeMaps (open_string shut_string)
set_option linter.unusedVariables false
set_option linter.unusedSimpArgs false

theorem sclean_out : laidOutB Tryz.prog = true := by kernel_rfl
theorem sclean_own : ownKnob Tryz.prog.godebug = none := by kernel_rfl
set_option maxRecDepth 100000 in
theorem lifted_sclean (os : Os) (started : os.Started) (H : Type) (enc : TypeId × Value → H) :
    ReturnsInHanded {} Tryz.checked os 12 .any (fun w args => (Rows.slabCleanSpec.pre enc Tryz.prog Tryz.f12 Rows.slabCleanRow.domain false w args ∧ laidMetH Tryz.prog laid5 w) ∧ sizedMet enc Tryz.prog Tryz.f12 (OpenSpec.ofChange Rows.slabCleanSpec) false w args)
      (Rows.slabCleanSpec.post enc Tryz.prog Tryz.f12 false true false false) := by
  refine handed_xs (C := Tryz.checked) (X := fun w _ => laidMetH Tryz.prog laid5 w) (fun _ _ _ hh h => h.of_heap hh) sclean_own started (by kernel_rfl) Tryz.func12
    (ChangeSpec.witness_shaped (enc := enc) (C := Tryz.checked) (os := os) (X := fun w _ => laidMetH Tryz.prog laid5 w) false (World.laidAll Tryz.prog os laid5) #[.slice none 0 0] 8 (World.laidAll_os _ _ _)
      (World.shaped_of_ZipB (by kernel_rfl) (by kernel_rfl)) (by kernel_rfl) (by kernel_rfl) (by kernel_rfl)
      (by rw [MakeChecks.laidMetH_plain _ _ _ (by kernel_rfl)]; exact laidMet_laidAll _ (by kernel_rfl) (by kernel_rfl))) ?_
  intro W base args ds gs before hval0 hW hL hsh
  have hval : ∀ (j : Nat) t v, Tryz.f12.params[j]? = some t → args[j]? = some v → Value.okWide Tryz.prog W .any base t v := hval0
  have hW' := hW
  obtain ⟨p, q, hA0, hV, rfl, hfz, hnd⟩ := hW
  have hA : DataW.TrodAll enc Tryz.prog W 0 (fun _ => true) true Tryz.f12.params.toList args.toList ds p := hA0
  rw [Tryz.params12] at hA hval
  obtain ⟨v0, vs0, d0, ds0, p0, q0, hargs, rfl, rfl, h0, r0⟩ := trodAll_cons hA
  obtain ⟨rfl, rfl, rfl⟩ := trodAll_nil r0
  obtain rfl : args = #[v0] := by cases args; simp_all
  obtain ⟨rfl, rfl⟩ := trodVars_none hV
  have k0 := h0
  have lt0 : ∀ x ∈ p0, x.block < W.heap.size := by obtain ⟨m, hm⟩ := k0; exact DataW.trod_lt m _ _ _ hm
  obtain ⟨a0, c0, l0, rfl, hb0⟩ := open_acts15 (hval 0 22 v0 rfl rfl) h0
  have hT := And.intro (tabs5_of_laid hL) (bytesLays.s1_3 W hsh)
  clear hA0 hval0
  simp only [List.append_nil] at hW'
  refine (walk_scleanW W hT a0 c0 l0 hb0).mono fun e W' ⟨he, hfr⟩ => ?_
  subst he
  have bel : Below W.heap.size W W' := hfr.below (Nat.le_refl _) (fun k hk => by simp at hk)
  exact ⟨_, rfl, _, _, _, [], _, [], hW', trodAll_mk1 (shut_bool Tryz.underlying4 _), (trodAll_cons_mk (Below.trod sclean_out (by kernel_rfl) (of_decide_eq_true (by kernel_rfl)) k0 bel lt0) trodAll_mk0), rfl, bel.frame _, fun h => by cases h⟩

theorem sclean_j0 : (Rows.slabCleanRow.wf (OpenSpec.ofChange Rows.slabCleanSpec)) = true := by kernel_rfl
theorem sclean_j1 : (laidOutB Tryz.prog) = true := by kernel_rfl
theorem sclean_j2 : (mapsRowed Tryz.prog) = true := by kernel_rfl
theorem sclean_j3 : (Tryz.f12.params.all (Tryz.prog.readableRec ·)) = true := by kernel_rfl
theorem sclean_j4 : (namedTie Tryz.prog Rows.slabCleanRow.named Rows.slabCleanSpec.vars) = true := by kernel_rfl
theorem sclean_j5 : ((Rows.slabCleanRow.stops == [])) = true := by kernel_rfl
theorem sclean_j6 : ((Tryz.prog.stops == [])) = true := by kernel_rfl
theorem sclean_j7 : ((Rows.slabCleanRow.knobs == [])) = true := by kernel_rfl
theorem sclean_j8 : ((Tryz.prog.stopKnobs == [])) = true := by kernel_rfl
theorem sclean_j9 : ((Rows.slabCleanRow.inPlace == Tryz.prog.inPlace 12)) = true := by kernel_rfl
theorem sclean_j10 : ((Rows.slabCleanRow.unfollowed == Tryz.prog.unfollowed 12)) = true := by kernel_rfl
theorem sclean_j11 : ((Rows.slabCleanRow.recurses == Tryz.prog.recurses 12)) = true := by kernel_rfl
theorem sclean_j12 : ((Rows.slabCleanRow.named == Tryz.prog.varsNamed 12)) = true := by kernel_rfl
theorem sclean_j13 : ((Rows.slabCleanRow.maps == (Tryz.f12.params.toList ++ Rows.slabCleanSpec.plain.varTypes Tryz.prog).any (Tryz.prog.mapsRec ·))) = true := by kernel_rfl
theorem sclean_j14 : ((Rows.slabCleanRow.ifaces == (Tryz.f12.params.toList ++ Rows.slabCleanSpec.plain.varTypes Tryz.prog).any (Tryz.prog.ifacesRec ·))) = true := by kernel_rfl
theorem sclean_j15 : ((Rows.slabCleanRow.mapsOut == Tryz.prog.mapsAmong Tryz.f12.resultTypes.toList)) = true := by kernel_rfl
theorem sclean_j16 : ((Rows.slabCleanRow.loops == (Tryz.f12.params.toList ++ Rows.slabCleanSpec.plain.varTypes Tryz.prog).any (Tryz.prog.loopsFrom ·))) = true := by kernel_rfl
theorem sclean_j17 : ((Rows.slabCleanRow.wideKeys == (Tryz.f12.params.toList ++ Rows.slabCleanSpec.plain.varTypes Tryz.prog ++ Tryz.f12.resultTypes.toList).any (Tryz.prog.wideKeysFrom ·))) = true := by kernel_rfl
theorem sclean_j18 : (Rows.slabCleanSpec.vars.all (Tryz.prog.varReadable ·)) = true := by kernel_rfl
theorem sclean_j19 : (Tryz.f12.resultTypes.all (fun t => Tryz.prog.readableRec t && decide (t < Tryz.prog.types.size))) = true := by kernel_rfl
theorem sclean_j20 : ((Rows.slabCleanRow.ifacesOut == Tryz.f12.resultTypes.toList.any (Tryz.prog.ifacesRec ·))) = true := by kernel_rfl
theorem sclean_j21 : ((Rows.slabCleanRow.loopsOut == Tryz.f12.resultTypes.toList.any (Tryz.prog.loopsFrom ·))) = true := by kernel_rfl
theorem sclean_j22 : ((Rows.slabCleanRow.plainKeys == Tryz.prog.plainKeys)) = true := by kernel_rfl
theorem sclean_j23 : (Rows.slabCleanRow.shortTexts.isNone) = true := by kernel_rfl
theorem sclean_j24 : (Tryz.prog.stopsHeard) = true := by kernel_rfl
theorem sclean_j25 : (Tryz.prog.mayEnter) = true := by kernel_rfl
theorem sclean_j26 : ((Rows.slabCleanRow.lifted == Tryz.prog.liftsFinal)) = true := by kernel_rfl
theorem sclean_j27 : ((Tryz.prog.make == some Rows.slabCleanRow.make)) = true := by kernel_rfl
theorem sclean_j29 : ((Rows.slabCleanRow.pinned == Rows.slabCleanRow.pinnedBy)) = true := by kernel_rfl
theorem sclean_j30 : ((Rows.slabCleanRow.veiled == (Tryz.f12.params.toList ++ Rows.slabCleanSpec.plain.varTypes Tryz.prog ++ Tryz.f12.resultTypes.toList).any (Tryz.prog.veiledRec ·))) = true := by kernel_rfl
theorem sclean_j31 : (Rows.slabCleanRow.veiledFits Tryz.prog Tryz.f12.params.toList (Tryz.f12.params.toList ++ Rows.slabCleanSpec.plain.varTypes Tryz.prog ++ Tryz.f12.resultTypes.toList)) = true := by kernel_rfl
theorem sclean_and {a b : Bool} (h1 : a = true) (h2 : b = true) : (a && b) = true := by rw [h1, h2]; rfl
set_option maxRecDepth 100000 in
theorem sclean_joined : joinedFacts Tryz.prog 12 Tryz.f12 Rows.slabCleanSpec Rows.slabCleanRow = true := by
  unfold joinedFacts
  refine (sclean_and (sclean_and (sclean_and (sclean_and (sclean_and (sclean_and (sclean_and (sclean_and (sclean_and (sclean_and (sclean_and (sclean_and (sclean_and (sclean_and (sclean_and (sclean_and (sclean_and (sclean_and (sclean_and (sclean_and (sclean_and (sclean_and (sclean_and (sclean_and (sclean_and (sclean_and (sclean_and (sclean_and (sclean_and (sclean_and (sclean_and sclean_j0 sclean_j1) sclean_j2) sclean_j3) sclean_j4) sclean_j5) sclean_j6) sclean_j7) sclean_j8) sclean_j9) sclean_j10) sclean_j11) sclean_j12) sclean_j13) sclean_j14) sclean_j15) sclean_j16) sclean_j17) sclean_j18) sclean_j19) sclean_j20) sclean_j21) sclean_j22) sclean_j23) sclean_j24) sclean_j25) sclean_j26) sclean_j27) ?_) sclean_j29) sclean_j30) sclean_j31)
  as_aux_lemma => kernel_rfl
theorem slabClean_row : Rows.SlabCleanSaid :=
  OpenClaim.holds_of_wide 12 Tryz.f12 rfl rfl rfl rfl rfl rfl rfl ⟨rfl, rfl, rfl, rfl, rfl⟩ rfl rfl rfl rfl rfl (by as_aux_lemma => kernel_rfl) Tryz.func12 sclean_joined
    (of_decide_eq_true (by as_aux_lemma => kernel_rfl)) (by as_aux_lemma => unfold Func.isWrapper; first | (rw [if_pos (by decide +kernel)]; kernel_rfl) | (rw [if_neg (by decide +kernel)]; exact ⟨rfl, rfl⟩))
    (fun os started H enc _ => lifted_sclean os started H enc)
theorem slabClean_holds : Rows.SlabCleanCardSaid :=
  Claim7.holds_tied_plain_at .later [] [.data, .widerDeep, .data, .data, .data] true (true, "0ccafe196cc1747ee087a7eadb183d06cce4d5f351445ab3427afae79d1f992a") false
    slabClean_row (fun _ h => by cases h) (by as_aux_lemma => kernel_rfl) (fun _ h => by cases h) slabClean_row_tie rfl ⟨rfl, rfl⟩ (by as_aux_lemma => kernel_rfl) rfl
    (fun f fn hf hfn => by
      obtain rfl : f = 12 := Option.some.inj ((show Tryz.prog.funcNamed "columbarium/columbariumlaw15.SlabClean" = some 12 by kernel_rfl).symm.trans hf) |>.symm
      obtain rfl : fn = Tryz.f12 := (Option.some.inj (Tryz.func12.symm.trans hfn)).symm
      exact ⟨by as_aux_lemma => kernel_rfl, fun j t ht => by
        rw [Tryz.params12] at ht
        have hm : t ∈ [22] := by simpa using Array.mem_of_getElem? ht
        have hall : ([22].all fun u => !Tryz.prog.wantsStandIn u) = true := by as_aux_lemma => kernel_rfl
        exact (show Tryz.prog.wantsStandIn t = false by simpa using List.all_eq_true.1 hall t hm)⟩)
    (by as_aux_lemma => kernel_rfl)
#print axioms slabClean_holds
end Go.Proofs.YtkapkbiccppldaaGreatDoor
