/- SlabBack returns true at every input, and every argument reads as it did: the tied card; no condition. -/
import Derived.Test.YtkapkbiccppldaaGreatDoorRows
import Derived.Test.YtkapkbiccppldaaGreatDoorCards
import Derived.Test.YtkapkbiccppldaaGreatDoorTie
import Derived.Test.YtkapkbiccppldaaGreatDoorLaw15k
import Derived.Test.YtkapkbiccppldaaGreatDoorLaid15
import Derived.Test.YtkapkbiccppldaaGreatDoorOpen15
import Derived.WalkKit
import Derived.ProofKit
import Derived.LaidMore
import Derived.OpenShut
import Derived.Stop.Joined
import Derived.SevenTiedAt
import Derived.Lay
import Derived.ShutString
import Derived.ChangeOld
import Derived.Below
namespace Go.Proofs.YtkapkbiccppldaaGreatDoor
open Go.ChangeShapes Go.WideShapes Go.ChangeAt Go.RowKit
open Go.ChangeMaps (open_string shut_string)
set_option linter.unusedVariables false
set_option linter.unusedSimpArgs false

theorem sback_out : laidOutB Tryz.prog = true := by kernel_rfl
theorem sback_own : ownKnob Tryz.prog.godebug = none := by kernel_rfl
set_option maxRecDepth 100000 in
theorem lifted_sback (os : Os) (started : os.Started) (H : Type) (enc : TypeId × Value → H) :
    ReturnsInHanded {} Tryz.checked os 5 .any (fun w args => (Rows.slabBackSpec.pre enc Tryz.prog Tryz.f5 Rows.slabBackRow.domain false w args ∧ laidMetH Tryz.prog laid5 w) ∧ sizedMet enc Tryz.prog Tryz.f5 (OpenSpec.ofChange Rows.slabBackSpec) false w args)
      (Rows.slabBackSpec.post enc Tryz.prog Tryz.f5 false true false false) := by
  refine returnsInHanded_of_change_and (C := Tryz.checked) (X := fun w _ => laidMetH Tryz.prog laid5 w) (fun _ _ _ hh h => h.of_heap hh) sback_own started (by kernel_rfl) Tryz.func5
    (ChangeSpec.witness_shaped (enc := enc) (C := Tryz.checked) (os := os) (X := fun w _ => laidMetH Tryz.prog laid5 w) false (World.laidAll Tryz.prog os laid5) #[.slice none 0 0, .int .i64 0] 8 (World.laidAll_os _ _ _)
      (World.shaped_of_ZipB (by kernel_rfl) (by kernel_rfl)) (by kernel_rfl) (by kernel_rfl) (by kernel_rfl)
      (by rw [MakeChecks.laidMetH_plain _ _ _ (by kernel_rfl)]; exact laidMet_laidAll _ (by kernel_rfl) (by kernel_rfl))) ?_
  intro W base args ds gs before hval0 hW hcnd _ hL _
  have hval : ∀ (j : Nat) t v, Tryz.f5.params[j]? = some t → args[j]? = some v → Value.okWide Tryz.prog W .any base t v := hval0
  have hW' := hW
  obtain ⟨p, q, hA0, hV, rfl, hfz, hnd⟩ := hW
  have hA : DataW.TrodAll enc Tryz.prog W 0 (fun _ => true) true Tryz.f5.params.toList args.toList ds p := hA0
  rw [Tryz.params5] at hA hval
  obtain ⟨v0, vs0, d0, ds0, p0, q0, hargs, rfl, rfl, h0, r0⟩ := trodAll_cons hA
  obtain ⟨v1, vs1, d1, ds1, p1, q1, rfl, rfl, rfl, h1, r1⟩ := trodAll_cons r0
  obtain ⟨rfl, rfl, rfl⟩ := trodAll_nil r1
  obtain rfl : args = #[v0, v1] := by cases args; simp_all
  obtain ⟨rfl, rfl⟩ := trodVars_none hV
  have k0 := h0
  have lt0 : ∀ x ∈ p0, x.block < W.heap.size := by obtain ⟨m, hm⟩ := k0; exact DataW.trod_lt m _ _ _ hm
  obtain ⟨a0, c0, l0, rfl, hb0⟩ := open_acts15 (hval 0 22 v0 rfl rfl) h0
  obtain ⟨a1, rfl, rfl, rfl, w1⟩ := open_int Tryz.underlying3 (hval 1 3 v1 rfl rfl) h1
  have hT := tabs5_of_laid hL
  clear hA0 hval0
  simp only [List.append_nil] at hW'
  refine (walk_sbackW W hT a0 c0 l0 hb0 a1).mono fun e W' ⟨he, hfr⟩ => ?_
  subst he
  have bel : Below W.heap.size W W' := hfr.below (Nat.le_refl _) (fun k hk => by simp at hk)
  exact ⟨_, rfl, _, _, _, [], _, [], hW', trodAll_mk1 (shut_bool Tryz.underlying4 _), (trodAll_cons_mk (Below.trod sback_out (by kernel_rfl) (of_decide_eq_true (by kernel_rfl)) k0 bel lt0) (trodAll_cons_mk (shut_int Tryz.underlying3 w1) trodAll_mk0)), rfl, bel.frame _, fun h => by cases h⟩

theorem sback_j0 : (Rows.slabBackRow.wf (OpenSpec.ofChange Rows.slabBackSpec)) = true := by kernel_rfl
theorem sback_j1 : (laidOutB Tryz.prog) = true := by kernel_rfl
theorem sback_j2 : (mapsRowed Tryz.prog) = true := by kernel_rfl
theorem sback_j3 : (Tryz.f5.params.all (Tryz.prog.readableRec ·)) = true := by kernel_rfl
theorem sback_j4 : (namedTie Tryz.prog Rows.slabBackRow.named Rows.slabBackSpec.vars) = true := by kernel_rfl
theorem sback_j5 : ((Rows.slabBackRow.stops == [])) = true := by kernel_rfl
theorem sback_j6 : ((Tryz.prog.stops == [])) = true := by kernel_rfl
theorem sback_j7 : ((Rows.slabBackRow.knobs == [])) = true := by kernel_rfl
theorem sback_j8 : ((Tryz.prog.stopKnobs == [])) = true := by kernel_rfl
theorem sback_j9 : ((Rows.slabBackRow.inPlace == Tryz.prog.inPlace 5)) = true := by kernel_rfl
theorem sback_j10 : ((Rows.slabBackRow.unfollowed == Tryz.prog.unfollowed 5)) = true := by kernel_rfl
theorem sback_j11 : ((Rows.slabBackRow.recurses == Tryz.prog.recurses 5)) = true := by kernel_rfl
theorem sback_j12 : ((Rows.slabBackRow.named == Tryz.prog.varsNamed 5)) = true := by kernel_rfl
theorem sback_j13 : ((Rows.slabBackRow.maps == (Tryz.f5.params.toList ++ Rows.slabBackSpec.plain.varTypes Tryz.prog).any (Tryz.prog.mapsRec ·))) = true := by kernel_rfl
theorem sback_j14 : ((Rows.slabBackRow.ifaces == (Tryz.f5.params.toList ++ Rows.slabBackSpec.plain.varTypes Tryz.prog).any (Tryz.prog.ifacesRec ·))) = true := by kernel_rfl
theorem sback_j15 : ((Rows.slabBackRow.mapsOut == Tryz.prog.mapsAmong Tryz.f5.resultTypes.toList)) = true := by kernel_rfl
theorem sback_j16 : ((Rows.slabBackRow.loops == (Tryz.f5.params.toList ++ Rows.slabBackSpec.plain.varTypes Tryz.prog).any (Tryz.prog.loopsFrom ·))) = true := by kernel_rfl
theorem sback_j17 : ((Rows.slabBackRow.wideKeys == (Tryz.f5.params.toList ++ Rows.slabBackSpec.plain.varTypes Tryz.prog ++ Tryz.f5.resultTypes.toList).any (Tryz.prog.wideKeysFrom ·))) = true := by kernel_rfl
theorem sback_j18 : (Rows.slabBackSpec.vars.all (Tryz.prog.varReadable ·)) = true := by kernel_rfl
theorem sback_j19 : (Tryz.f5.resultTypes.all (fun t => Tryz.prog.readableRec t && decide (t < Tryz.prog.types.size))) = true := by kernel_rfl
theorem sback_j20 : ((Rows.slabBackRow.ifacesOut == Tryz.f5.resultTypes.toList.any (Tryz.prog.ifacesRec ·))) = true := by kernel_rfl
theorem sback_j21 : ((Rows.slabBackRow.loopsOut == Tryz.f5.resultTypes.toList.any (Tryz.prog.loopsFrom ·))) = true := by kernel_rfl
theorem sback_j22 : ((Rows.slabBackRow.plainKeys == Tryz.prog.plainKeys)) = true := by kernel_rfl
theorem sback_j23 : (Rows.slabBackRow.shortTexts.isNone) = true := by kernel_rfl
theorem sback_j24 : (Tryz.prog.stopsHeard) = true := by kernel_rfl
theorem sback_j25 : (Tryz.prog.mayEnter) = true := by kernel_rfl
theorem sback_j26 : ((Rows.slabBackRow.lifted == Tryz.prog.liftsFinal)) = true := by kernel_rfl
theorem sback_j27 : ((Tryz.prog.make == some Rows.slabBackRow.make)) = true := by kernel_rfl
theorem sback_j29 : ((Rows.slabBackRow.pinned == Rows.slabBackRow.pinnedBy)) = true := by kernel_rfl
theorem sback_j30 : ((Rows.slabBackRow.veiled == (Tryz.f5.params.toList ++ Rows.slabBackSpec.plain.varTypes Tryz.prog ++ Tryz.f5.resultTypes.toList).any (Tryz.prog.veiledRec ·))) = true := by kernel_rfl
theorem sback_j31 : (Rows.slabBackRow.veiledFits Tryz.prog Tryz.f5.params.toList (Tryz.f5.params.toList ++ Rows.slabBackSpec.plain.varTypes Tryz.prog ++ Tryz.f5.resultTypes.toList)) = true := by kernel_rfl
theorem sback_and {a b : Bool} (h1 : a = true) (h2 : b = true) : (a && b) = true := by rw [h1, h2]; rfl
set_option maxRecDepth 100000 in
theorem sback_joined : joinedFacts Tryz.prog 5 Tryz.f5 Rows.slabBackSpec Rows.slabBackRow = true := by
  unfold joinedFacts
  refine (sback_and (sback_and (sback_and (sback_and (sback_and (sback_and (sback_and (sback_and (sback_and (sback_and (sback_and (sback_and (sback_and (sback_and (sback_and (sback_and (sback_and (sback_and (sback_and (sback_and (sback_and (sback_and (sback_and (sback_and (sback_and (sback_and (sback_and (sback_and (sback_and (sback_and (sback_and sback_j0 sback_j1) sback_j2) sback_j3) sback_j4) sback_j5) sback_j6) sback_j7) sback_j8) sback_j9) sback_j10) sback_j11) sback_j12) sback_j13) sback_j14) sback_j15) sback_j16) sback_j17) sback_j18) sback_j19) sback_j20) sback_j21) sback_j22) sback_j23) sback_j24) sback_j25) sback_j26) sback_j27) ?_) sback_j29) sback_j30) sback_j31)
  as_aux_lemma => kernel_rfl
theorem slabBack_row : Rows.SlabBackSaid :=
  OpenClaim.holds_of_wide 5 Tryz.f5 rfl rfl rfl rfl rfl rfl rfl ⟨rfl, rfl, rfl, rfl, rfl⟩ rfl rfl rfl rfl rfl (by as_aux_lemma => kernel_rfl) Tryz.func5 sback_joined
    (of_decide_eq_true (by as_aux_lemma => kernel_rfl)) (by as_aux_lemma => unfold Func.isWrapper; first | (rw [if_pos (by decide +kernel)]; kernel_rfl) | (rw [if_neg (by decide +kernel)]; exact ⟨rfl, rfl⟩))
    (fun os started H enc _ => lifted_sback os started H enc)
theorem slabBack_holds : Rows.SlabBackCardSaid :=
  Claim7.holds_tied_plain_at .later [] [.data, .widerDeep, .data, .data, .data] true (true, "0ccafe196cc1747ee087a7eadb183d06cce4d5f351445ab3427afae79d1f992a") false
    slabBack_row (fun _ h => by cases h) (by as_aux_lemma => kernel_rfl) (fun _ h => by cases h) slabBack_row_tie rfl ⟨rfl, rfl⟩ (by as_aux_lemma => kernel_rfl) rfl
    (fun f fn hf hfn => by
      obtain rfl : f = 5 := Option.some.inj ((show Tryz.prog.funcNamed "columbarium/columbariumlaw15.SlabBack" = some 5 by kernel_rfl).symm.trans hf) |>.symm
      obtain rfl : fn = Tryz.f5 := (Option.some.inj (Tryz.func5.symm.trans hfn)).symm
      exact ⟨by as_aux_lemma => kernel_rfl, fun j t ht => by
        rw [Tryz.params5] at ht
        have hm : t ∈ [22, 3] := by simpa using Array.mem_of_getElem? ht
        have hall : ([22, 3].all fun u => !Tryz.prog.wantsStandIn u) = true := by as_aux_lemma => kernel_rfl
        exact (show Tryz.prog.wantsStandIn t = false by simpa using List.all_eq_true.1 hall t hm)⟩)
    (by as_aux_lemma => kernel_rfl)
#print axioms slabBack_holds
end Go.Proofs.YtkapkbiccppldaaGreatDoor
