/- SlabOnce returns true at every input, and every argument reads as it did: the tied card; no condition. -/
import Derived.Test.YtkapkbiccppldaaGreatDoorRows
import Derived.Test.YtkapkbiccppldaaGreatDoorCards
import Derived.Test.YtkapkbiccppldaaGreatDoorTie
import Derived.Test.YtkapkbiccppldaaGreatDoorLaw15o
import Derived.Test.YtkapkbiccppldaaGreatDoorLaid15
import Derived.Test.YtkapkbiccppldaaGreatDoorOpen15
import Derived.WalkKit
import Derived.ProofKit
import Derived.LaidMore
import Derived.OpenShut
import Derived.Stop.Joined
import Derived.SevenTiedAt
import Derived.Lay
import Derived.ShutString
import Derived.ChangeOld
import Derived.Below
namespace Go.Proofs.YtkapkbiccppldaaGreatDoor
open Go.ChangeShapes Go.WideShapes Go.ChangeAt Go.RowKit
open Go.ChangeMaps (open_string shut_string)
set_option linter.unusedVariables false
set_option linter.unusedSimpArgs false

theorem sonce_out : laidOutB Tryz.prog = true := by kernel_rfl
theorem sonce_own : ownKnob Tryz.prog.godebug = none := by kernel_rfl
set_option maxRecDepth 100000 in
theorem lifted_sonce (os : Os) (started : os.Started) (H : Type) (enc : TypeId × Value → H) :
    ReturnsInHanded {} Tryz.checked os 4 .any (fun w args => (Rows.slabOnceSpec.pre enc Tryz.prog Tryz.f4 Rows.slabOnceRow.domain false w args ∧ laidMetH Tryz.prog laid5 w) ∧ sizedMet enc Tryz.prog Tryz.f4 (OpenSpec.ofChange Rows.slabOnceSpec) false w args)
      (Rows.slabOnceSpec.post enc Tryz.prog Tryz.f4 false true false false) := by
  refine returnsInHanded_of_change_and (C := Tryz.checked) (X := fun w _ => laidMetH Tryz.prog laid5 w) (fun _ _ _ hh h => h.of_heap hh) sonce_own started (by kernel_rfl) Tryz.func4
    (ChangeSpec.witness_shaped (enc := enc) (C := Tryz.checked) (os := os) (X := fun w _ => laidMetH Tryz.prog laid5 w) false (World.laidAll Tryz.prog os laid5) #[.slice none 0 0] 8 (World.laidAll_os _ _ _)
      (World.shaped_of_ZipB (by kernel_rfl) (by kernel_rfl)) (by kernel_rfl) (by kernel_rfl) (by kernel_rfl)
      (by rw [MakeChecks.laidMetH_plain _ _ _ (by kernel_rfl)]; exact laidMet_laidAll _ (by kernel_rfl) (by kernel_rfl))) ?_
  intro W base args ds gs before hval0 hW hcnd _ hL _
  have hval : ∀ (j : Nat) t v, Tryz.f4.params[j]? = some t → args[j]? = some v → Value.okWide Tryz.prog W .any base t v := hval0
  have hW' := hW
  obtain ⟨p, q, hA0, hV, rfl, hfz, hnd⟩ := hW
  have hA : DataW.TrodAll enc Tryz.prog W 0 (fun _ => true) true Tryz.f4.params.toList args.toList ds p := hA0
  rw [Tryz.params4] at hA hval
  obtain ⟨v0, vs0, d0, ds0, p0, q0, hargs, rfl, rfl, h0, r0⟩ := trodAll_cons hA
  obtain ⟨rfl, rfl, rfl⟩ := trodAll_nil r0
  obtain rfl : args = #[v0] := by cases args; simp_all
  obtain ⟨rfl, rfl⟩ := trodVars_none hV
  have k0 := h0
  have lt0 : ∀ x ∈ p0, x.block < W.heap.size := by obtain ⟨m, hm⟩ := k0; exact DataW.trod_lt m _ _ _ hm
  obtain ⟨a0, c0, l0, rfl, hb0⟩ := open_acts15 (hval 0 22 v0 rfl rfl) h0
  have hT := tabs5_of_laid hL
  clear hA0 hval0
  simp only [List.append_nil] at hW'
  refine (walk_sonceW W hT a0 c0 l0 hb0).mono fun e W' ⟨he, hfr⟩ => ?_
  subst he
  have bel : Below W.heap.size W W' := hfr.below (Nat.le_refl _) (fun k hk => by simp at hk)
  exact ⟨_, rfl, _, _, _, [], _, [], hW', trodAll_mk1 (shut_bool Tryz.underlying4 _), (trodAll_cons_mk (Below.trod sonce_out (by kernel_rfl) (of_decide_eq_true (by kernel_rfl)) k0 bel lt0) trodAll_mk0), rfl, bel.frame _, fun h => by cases h⟩

theorem sonce_j0 : (Rows.slabOnceRow.wf (OpenSpec.ofChange Rows.slabOnceSpec)) = true := by kernel_rfl
theorem sonce_j1 : (laidOutB Tryz.prog) = true := by kernel_rfl
theorem sonce_j2 : (mapsRowed Tryz.prog) = true := by kernel_rfl
theorem sonce_j3 : (Tryz.f4.params.all (Tryz.prog.readableRec ·)) = true := by kernel_rfl
theorem sonce_j4 : (namedTie Tryz.prog Rows.slabOnceRow.named Rows.slabOnceSpec.vars) = true := by kernel_rfl
theorem sonce_j5 : ((Rows.slabOnceRow.stops == [])) = true := by kernel_rfl
theorem sonce_j6 : ((Tryz.prog.stops == [])) = true := by kernel_rfl
theorem sonce_j7 : ((Rows.slabOnceRow.knobs == [])) = true := by kernel_rfl
theorem sonce_j8 : ((Tryz.prog.stopKnobs == [])) = true := by kernel_rfl
theorem sonce_j9 : ((Rows.slabOnceRow.inPlace == Tryz.prog.inPlace 4)) = true := by kernel_rfl
theorem sonce_j10 : ((Rows.slabOnceRow.unfollowed == Tryz.prog.unfollowed 4)) = true := by kernel_rfl
theorem sonce_j11 : ((Rows.slabOnceRow.recurses == Tryz.prog.recurses 4)) = true := by kernel_rfl
theorem sonce_j12 : ((Rows.slabOnceRow.named == Tryz.prog.varsNamed 4)) = true := by kernel_rfl
theorem sonce_j13 : ((Rows.slabOnceRow.maps == (Tryz.f4.params.toList ++ Rows.slabOnceSpec.plain.varTypes Tryz.prog).any (Tryz.prog.mapsRec ·))) = true := by kernel_rfl
theorem sonce_j14 : ((Rows.slabOnceRow.ifaces == (Tryz.f4.params.toList ++ Rows.slabOnceSpec.plain.varTypes Tryz.prog).any (Tryz.prog.ifacesRec ·))) = true := by kernel_rfl
theorem sonce_j15 : ((Rows.slabOnceRow.mapsOut == Tryz.prog.mapsAmong Tryz.f4.resultTypes.toList)) = true := by kernel_rfl
theorem sonce_j16 : ((Rows.slabOnceRow.loops == (Tryz.f4.params.toList ++ Rows.slabOnceSpec.plain.varTypes Tryz.prog).any (Tryz.prog.loopsFrom ·))) = true := by kernel_rfl
theorem sonce_j17 : ((Rows.slabOnceRow.wideKeys == (Tryz.f4.params.toList ++ Rows.slabOnceSpec.plain.varTypes Tryz.prog ++ Tryz.f4.resultTypes.toList).any (Tryz.prog.wideKeysFrom ·))) = true := by kernel_rfl
theorem sonce_j18 : (Rows.slabOnceSpec.vars.all (Tryz.prog.varReadable ·)) = true := by kernel_rfl
theorem sonce_j19 : (Tryz.f4.resultTypes.all (fun t => Tryz.prog.readableRec t && decide (t < Tryz.prog.types.size))) = true := by kernel_rfl
theorem sonce_j20 : ((Rows.slabOnceRow.ifacesOut == Tryz.f4.resultTypes.toList.any (Tryz.prog.ifacesRec ·))) = true := by kernel_rfl
theorem sonce_j21 : ((Rows.slabOnceRow.loopsOut == Tryz.f4.resultTypes.toList.any (Tryz.prog.loopsFrom ·))) = true := by kernel_rfl
theorem sonce_j22 : ((Rows.slabOnceRow.plainKeys == Tryz.prog.plainKeys)) = true := by kernel_rfl
theorem sonce_j23 : (Rows.slabOnceRow.shortTexts.isNone) = true := by kernel_rfl
theorem sonce_j24 : (Tryz.prog.stopsHeard) = true := by kernel_rfl
theorem sonce_j25 : (Tryz.prog.mayEnter) = true := by kernel_rfl
theorem sonce_j26 : ((Rows.slabOnceRow.lifted == Tryz.prog.liftsFinal)) = true := by kernel_rfl
theorem sonce_j27 : ((Tryz.prog.make == some Rows.slabOnceRow.make)) = true := by kernel_rfl
theorem sonce_j29 : ((Rows.slabOnceRow.pinned == Rows.slabOnceRow.pinnedBy)) = true := by kernel_rfl
theorem sonce_j30 : ((Rows.slabOnceRow.veiled == (Tryz.f4.params.toList ++ Rows.slabOnceSpec.plain.varTypes Tryz.prog ++ Tryz.f4.resultTypes.toList).any (Tryz.prog.veiledRec ·))) = true := by kernel_rfl
theorem sonce_j31 : (Rows.slabOnceRow.veiledFits Tryz.prog Tryz.f4.params.toList (Tryz.f4.params.toList ++ Rows.slabOnceSpec.plain.varTypes Tryz.prog ++ Tryz.f4.resultTypes.toList)) = true := by kernel_rfl
theorem sonce_and {a b : Bool} (h1 : a = true) (h2 : b = true) : (a && b) = true := by rw [h1, h2]; rfl
set_option maxRecDepth 100000 in
theorem sonce_joined : joinedFacts Tryz.prog 4 Tryz.f4 Rows.slabOnceSpec Rows.slabOnceRow = true := by
  unfold joinedFacts
  refine (sonce_and (sonce_and (sonce_and (sonce_and (sonce_and (sonce_and (sonce_and (sonce_and (sonce_and (sonce_and (sonce_and (sonce_and (sonce_and (sonce_and (sonce_and (sonce_and (sonce_and (sonce_and (sonce_and (sonce_and (sonce_and (sonce_and (sonce_and (sonce_and (sonce_and (sonce_and (sonce_and (sonce_and (sonce_and (sonce_and (sonce_and sonce_j0 sonce_j1) sonce_j2) sonce_j3) sonce_j4) sonce_j5) sonce_j6) sonce_j7) sonce_j8) sonce_j9) sonce_j10) sonce_j11) sonce_j12) sonce_j13) sonce_j14) sonce_j15) sonce_j16) sonce_j17) sonce_j18) sonce_j19) sonce_j20) sonce_j21) sonce_j22) sonce_j23) sonce_j24) sonce_j25) sonce_j26) sonce_j27) ?_) sonce_j29) sonce_j30) sonce_j31)
  as_aux_lemma => kernel_rfl
theorem slabOnce_row : Rows.SlabOnceSaid :=
  OpenClaim.holds_of_wide 4 Tryz.f4 rfl rfl rfl rfl rfl rfl rfl ⟨rfl, rfl, rfl, rfl, rfl⟩ rfl rfl rfl rfl rfl (by as_aux_lemma => kernel_rfl) Tryz.func4 sonce_joined
    (of_decide_eq_true (by as_aux_lemma => kernel_rfl)) (by as_aux_lemma => unfold Func.isWrapper; first | (rw [if_pos (by decide +kernel)]; kernel_rfl) | (rw [if_neg (by decide +kernel)]; exact ⟨rfl, rfl⟩))
    (fun os started H enc _ => lifted_sonce os started H enc)
theorem slabOnce_holds : Rows.SlabOnceCardSaid :=
  Claim7.holds_tied_plain_at .later [] [.data, .widerDeep, .data, .data, .data] true (true, "0ccafe196cc1747ee087a7eadb183d06cce4d5f351445ab3427afae79d1f992a") false
    slabOnce_row (fun _ h => by cases h) (by as_aux_lemma => kernel_rfl) (fun _ h => by cases h) slabOnce_row_tie rfl ⟨rfl, rfl⟩ (by as_aux_lemma => kernel_rfl) rfl
    (fun f fn hf hfn => by
      obtain rfl : f = 4 := Option.some.inj ((show Tryz.prog.funcNamed "columbarium/columbariumlaw15.SlabOnce" = some 4 by kernel_rfl).symm.trans hf) |>.symm
      obtain rfl : fn = Tryz.f4 := (Option.some.inj (Tryz.func4.symm.trans hfn)).symm
      exact ⟨by as_aux_lemma => kernel_rfl, fun j t ht => by
        rw [Tryz.params4] at ht
        have hm : t ∈ [22] := by simpa using Array.mem_of_getElem? ht
        have hall : ([22].all fun u => !Tryz.prog.wantsStandIn u) = true := by as_aux_lemma => kernel_rfl
        exact (show Tryz.prog.wantsStandIn t = false by simpa using List.all_eq_true.1 hall t hm)⟩)
    (by as_aux_lemma => kernel_rfl)
#print axioms slabOnce_holds
end Go.Proofs.YtkapkbiccppldaaGreatDoor
