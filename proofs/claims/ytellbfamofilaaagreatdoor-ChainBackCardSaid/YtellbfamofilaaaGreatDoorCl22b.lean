/- ChainBack returns true at every input, and every argument reads as it did: the tied card; no condition. -/
import Derived.Test.YtellbfamofilaaaGreatDoorRows
import Derived.Test.YtellbfamofilaaaGreatDoorCards
import Derived.Test.YtellbfamofilaaaGreatDoorTie
import Derived.Test.YtellbfamofilaaaGreatDoorLaw22b
import Derived.Test.YtellbfamofilaaaGreatDoorLaid15
import Derived.Test.YtellbfamofilaaaGreatDoorMO
import Derived.WalkKit
import Derived.ProofKit
import Derived.LaidMore
import Derived.OpenShut
import Derived.Stop.Joined
import Derived.SevenTiedAt
import Derived.Lay
import Derived.ShutString
import Derived.ChangeOld
import Derived.Below
namespace Go.Proofs.YtellbfamofilaaaGreatDoor
open Go.ChangeShapes Go.WideShapes Go.ChangeAt Go.RowKit
open Go.ChangeMaps (open_string shut_string)
set_option linter.unusedVariables false
set_option linter.unusedSimpArgs false

theorem cback_out : laidOutB Tryz.prog = true := by kernel_rfl
theorem cback_own : ownKnob Tryz.prog.godebug = none := by kernel_rfl
set_option maxRecDepth 100000 in
theorem lifted_cback (os : Os) (started : os.Started) (H : Type) (enc : TypeId × Value → H) :
    ReturnsInHanded {} Tryz.checked os 7 .any (fun w args => (Rows.chainBackSpec.pre enc Tryz.prog Tryz.f7 Rows.chainBackRow.domain false w args ∧ laidMetH Tryz.prog laid5 w) ∧ sizedMet enc Tryz.prog Tryz.f7 (OpenSpec.ofChange Rows.chainBackSpec) false w args)
      (Rows.chainBackSpec.post enc Tryz.prog Tryz.f7 false true false false) := by
  refine returnsInHanded_of_change_and (C := Tryz.checked) (X := fun w _ => laidMetH Tryz.prog laid5 w) (fun _ _ _ hh h => h.of_heap hh) cback_own started (by kernel_rfl) Tryz.func7
    (ChangeSpec.witness_shaped (enc := enc) (C := Tryz.checked) (os := os) (X := fun w _ => laidMetH Tryz.prog laid5 w) false (World.laidAll Tryz.prog os laid5) #[.slice none 0 0, .slice none 0 0] 8 (World.laidAll_os _ _ _)
      (World.shaped_of_ZipB (by kernel_rfl) (by kernel_rfl)) (by kernel_rfl) (by kernel_rfl) (by kernel_rfl)
      (by rw [MakeChecks.laidMetH_plain _ _ _ (by kernel_rfl)]; exact laidMet_laidAll _ (by kernel_rfl) (by kernel_rfl))) ?_
  intro W base args ds gs before hval0 hW hcnd _ hL _
  have hval : ∀ (j : Nat) t v, Tryz.f7.params[j]? = some t → args[j]? = some v → Value.okWide Tryz.prog W .any base t v := hval0
  have hW' := hW
  obtain ⟨p, q, hA0, hV, rfl, hfz, hnd⟩ := hW
  have hA : DataW.TrodAll enc Tryz.prog W 0 (fun _ => true) true Tryz.f7.params.toList args.toList ds p := hA0
  rw [Tryz.params7] at hA hval
  obtain ⟨v0, vs0, d0, ds0, p0, q0, hargs, rfl, rfl, h0, r0⟩ := trodAll_cons hA
  obtain ⟨v1, vs1, d1, ds1, p1, q1, rfl, rfl, rfl, h1, r1⟩ := trodAll_cons r0
  obtain ⟨rfl, rfl, rfl⟩ := trodAll_nil r1
  obtain rfl : args = #[v0, v1] := by cases args; simp_all
  obtain ⟨rfl, rfl⟩ := trodVars_none hV
  have k0 := h0
  have lt0 : ∀ x ∈ p0, x.block < W.heap.size := by obtain ⟨m, hm⟩ := k0; exact DataW.trod_lt m _ _ _ hm
  obtain ⟨a0, c0, l0, rfl, hb0⟩ := open_acts22 (hval 0 51 v0 rfl rfl) h0
  have k1 := h1
  have lt1 : ∀ x ∈ p1, x.block < W.heap.size := by obtain ⟨m, hm⟩ := k1; exact DataW.trod_lt m _ _ _ hm
  obtain ⟨a1, c1, l1, rfl, hb1⟩ := open_strs (hval 1 43 v1 rfl rfl) h1
  have hT := tabs5_of_laid hL
  clear hA0 hval0
  simp only [List.append_nil] at hW'
  refine (walk_cbackW W hT a0 c0 l0 hb0 a1 c1 l1 hb1).mono fun e W' ⟨he, hfr⟩ => ?_
  subst he
  have bel : Below W.heap.size W W' := hfr.below (Nat.le_refl _) (fun k hk => by simp at hk)
  exact ⟨_, rfl, _, _, _, [], _, [], hW', trodAll_mk1 (shut_bool Tryz.underlying4 _), (trodAll_cons_mk (Below.trod cback_out (by kernel_rfl) (of_decide_eq_true (by kernel_rfl)) k0 bel lt0) (trodAll_cons_mk (Below.trod cback_out (by kernel_rfl) (of_decide_eq_true (by kernel_rfl)) k1 bel lt1) trodAll_mk0)), rfl, bel.frame _, fun h => by cases h⟩

theorem cback_j0 : (Rows.chainBackRow.wf (OpenSpec.ofChange Rows.chainBackSpec)) = true := by kernel_rfl
theorem cback_j1 : (laidOutB Tryz.prog) = true := by kernel_rfl
theorem cback_j2 : (mapsRowed Tryz.prog) = true := by kernel_rfl
theorem cback_j3 : (Tryz.f7.params.all (Tryz.prog.readableRec ·)) = true := by kernel_rfl
theorem cback_j4 : (namedTie Tryz.prog Rows.chainBackRow.named Rows.chainBackSpec.vars) = true := by kernel_rfl
theorem cback_j5 : ((Rows.chainBackRow.stops == [])) = true := by kernel_rfl
theorem cback_j6 : ((Tryz.prog.stops == [])) = true := by kernel_rfl
theorem cback_j7 : ((Rows.chainBackRow.knobs == [])) = true := by kernel_rfl
theorem cback_j8 : ((Tryz.prog.stopKnobs == [])) = true := by kernel_rfl
theorem cback_j9 : ((Rows.chainBackRow.inPlace == Tryz.prog.inPlace 7)) = true := by kernel_rfl
theorem cback_j10 : ((Rows.chainBackRow.unfollowed == Tryz.prog.unfollowed 7)) = true := by kernel_rfl
theorem cback_j11 : ((Rows.chainBackRow.recurses == Tryz.prog.recurses 7)) = true := by kernel_rfl
theorem cback_j12 : ((Rows.chainBackRow.named == Tryz.prog.varsNamed 7)) = true := by kernel_rfl
theorem cback_j13 : ((Rows.chainBackRow.maps == (Tryz.f7.params.toList ++ Rows.chainBackSpec.plain.varTypes Tryz.prog).any (Tryz.prog.mapsRec ·))) = true := by kernel_rfl
theorem cback_j14 : ((Rows.chainBackRow.ifaces == (Tryz.f7.params.toList ++ Rows.chainBackSpec.plain.varTypes Tryz.prog).any (Tryz.prog.ifacesRec ·))) = true := by kernel_rfl
theorem cback_j15 : ((Rows.chainBackRow.mapsOut == Tryz.prog.mapsAmong Tryz.f7.resultTypes.toList)) = true := by kernel_rfl
theorem cback_j16 : ((Rows.chainBackRow.loops == (Tryz.f7.params.toList ++ Rows.chainBackSpec.plain.varTypes Tryz.prog).any (Tryz.prog.loopsFrom ·))) = true := by kernel_rfl
theorem cback_j17 : ((Rows.chainBackRow.wideKeys == (Tryz.f7.params.toList ++ Rows.chainBackSpec.plain.varTypes Tryz.prog ++ Tryz.f7.resultTypes.toList).any (Tryz.prog.wideKeysFrom ·))) = true := by kernel_rfl
theorem cback_j18 : (Rows.chainBackSpec.vars.all (Tryz.prog.varReadable ·)) = true := by kernel_rfl
theorem cback_j19 : (Tryz.f7.resultTypes.all (fun t => Tryz.prog.readableRec t && decide (t < Tryz.prog.types.size))) = true := by kernel_rfl
theorem cback_j20 : ((Rows.chainBackRow.ifacesOut == Tryz.f7.resultTypes.toList.any (Tryz.prog.ifacesRec ·))) = true := by kernel_rfl
theorem cback_j21 : ((Rows.chainBackRow.loopsOut == Tryz.f7.resultTypes.toList.any (Tryz.prog.loopsFrom ·))) = true := by kernel_rfl
theorem cback_j22 : ((Rows.chainBackRow.plainKeys == Tryz.prog.plainKeys)) = true := by kernel_rfl
theorem cback_j23 : (Rows.chainBackRow.shortTexts.isNone) = true := by kernel_rfl
theorem cback_j24 : (Tryz.prog.stopsHeard) = true := by kernel_rfl
theorem cback_j25 : (Tryz.prog.mayEnter) = true := by kernel_rfl
theorem cback_j26 : ((Rows.chainBackRow.lifted == Tryz.prog.liftsFinal)) = true := by kernel_rfl
theorem cback_j27 : ((Tryz.prog.make == some Rows.chainBackRow.make)) = true := by kernel_rfl
theorem cback_j29 : ((Rows.chainBackRow.pinned == Rows.chainBackRow.pinnedBy)) = true := by kernel_rfl
theorem cback_j30 : ((Rows.chainBackRow.veiled == (Tryz.f7.params.toList ++ Rows.chainBackSpec.plain.varTypes Tryz.prog ++ Tryz.f7.resultTypes.toList).any (Tryz.prog.veiledRec ·))) = true := by kernel_rfl
theorem cback_j31 : (Rows.chainBackRow.veiledFits Tryz.prog Tryz.f7.params.toList (Tryz.f7.params.toList ++ Rows.chainBackSpec.plain.varTypes Tryz.prog ++ Tryz.f7.resultTypes.toList)) = true := by kernel_rfl
theorem cback_and {a b : Bool} (h1 : a = true) (h2 : b = true) : (a && b) = true := by rw [h1, h2]; rfl
set_option maxRecDepth 100000 in
theorem cback_joined : joinedFacts Tryz.prog 7 Tryz.f7 Rows.chainBackSpec Rows.chainBackRow = true := by
  unfold joinedFacts
  refine (cback_and (cback_and (cback_and (cback_and (cback_and (cback_and (cback_and (cback_and (cback_and (cback_and (cback_and (cback_and (cback_and (cback_and (cback_and (cback_and (cback_and (cback_and (cback_and (cback_and (cback_and (cback_and (cback_and (cback_and (cback_and (cback_and (cback_and (cback_and (cback_and (cback_and (cback_and cback_j0 cback_j1) cback_j2) cback_j3) cback_j4) cback_j5) cback_j6) cback_j7) cback_j8) cback_j9) cback_j10) cback_j11) cback_j12) cback_j13) cback_j14) cback_j15) cback_j16) cback_j17) cback_j18) cback_j19) cback_j20) cback_j21) cback_j22) cback_j23) cback_j24) cback_j25) cback_j26) cback_j27) ?_) cback_j29) cback_j30) cback_j31)
  as_aux_lemma => kernel_rfl
theorem chainBack_row : Rows.ChainBackSaid :=
  OpenClaim.holds_of_wide 7 Tryz.f7 rfl rfl rfl rfl rfl rfl rfl ⟨rfl, rfl, rfl, rfl, rfl⟩ rfl rfl rfl rfl rfl (by as_aux_lemma => kernel_rfl) Tryz.func7 cback_joined
    (of_decide_eq_true (by as_aux_lemma => kernel_rfl)) (by as_aux_lemma => unfold Func.isWrapper; first | (rw [if_pos (by decide +kernel)]; kernel_rfl) | (rw [if_neg (by decide +kernel)]; exact ⟨rfl, rfl⟩))
    (fun os started H enc _ => lifted_cback os started H enc)
theorem chainBack_holds : Rows.ChainBackCardSaid :=
  Claim7.holds_tied_plain_at .later [] [.data, .widerDeep, .data, .data, .data] true (true, "c40ed4fcfbfe39a1b99ee3f0c59beaee49a2c31054aa0340ec93d134df80ca4e") true
    chainBack_row (fun _ h => by cases h) (by as_aux_lemma => kernel_rfl) (fun _ h => by cases h) chainBack_row_tie rfl ⟨rfl, rfl⟩ (by as_aux_lemma => kernel_rfl) rfl
    (fun f fn hf hfn => by
      obtain rfl : f = 7 := Option.some.inj ((show Tryz.prog.funcNamed "columbarium/columbariumlaw22.ChainBack" = some 7 by kernel_rfl).symm.trans hf) |>.symm
      obtain rfl : fn = Tryz.f7 := (Option.some.inj (Tryz.func7.symm.trans hfn)).symm
      exact ⟨by as_aux_lemma => kernel_rfl, fun j t ht => by
        rw [Tryz.params7] at ht
        have hm : t ∈ [51, 43] := by simpa using Array.mem_of_getElem? ht
        have hall : ([51, 43].all fun u => !Tryz.prog.wantsStandIn u) = true := by as_aux_lemma => kernel_rfl
        exact (show Tryz.prog.wantsStandIn t = false by simpa using List.all_eq_true.1 hall t hm)⟩)
    (by as_aux_lemma => kernel_rfl)
#print axioms chainBack_holds
end Go.Proofs.YtellbfamofilaaaGreatDoor
