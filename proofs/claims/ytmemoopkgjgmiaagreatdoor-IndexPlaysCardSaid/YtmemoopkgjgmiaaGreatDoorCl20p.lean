/- IndexPlays returns true at every input, and every argument reads as it did: the tied card; no condition. -/
import Derived.Test.YtmemoopkgjgmiaaGreatDoorRows
import Derived.Test.YtmemoopkgjgmiaaGreatDoorCards
import Derived.Test.YtmemoopkgjgmiaaGreatDoorTie
import Derived.Test.YtmemoopkgjgmiaaGreatDoorLaw20p
import Derived.Test.YtmemoopkgjgmiaaGreatDoorLaid15
import Derived.Test.YtmemoopkgjgmiaaGreatDoorKH
import Derived.WalkKit
import Derived.ProofKit
import Derived.LaidMore
import Derived.OpenShut
import Derived.Stop.Joined
import Derived.SevenTiedAt
import Derived.Lay
import Derived.ShutString
import Derived.ChangeOld
import Derived.Below
namespace Go.Proofs.YtmemoopkgjgmiaaGreatDoor
open Go.ChangeShapes Go.WideShapes Go.ChangeAt Go.RowKit
open Go.ChangeMaps (open_string shut_string)
set_option linter.unusedVariables false
set_option linter.unusedSimpArgs false

theorem iplays_out : laidOutB Tryz.prog = true := by kernel_rfl
theorem iplays_own : ownKnob Tryz.prog.godebug = none := by kernel_rfl
set_option maxRecDepth 100000 in
theorem lifted_iplays (os : Os) (started : os.Started) (H : Type) (enc : TypeId × Value → H) :
    ReturnsInHanded {} Tryz.checked os 3 .any (fun w args => (Rows.indexPlaysSpec.pre enc Tryz.prog Tryz.f3 Rows.indexPlaysRow.domain false w args ∧ laidMetH Tryz.prog laid5 w) ∧ sizedMet enc Tryz.prog Tryz.f3 (OpenSpec.ofChange Rows.indexPlaysSpec) false w args)
      (Rows.indexPlaysSpec.post enc Tryz.prog Tryz.f3 false true false false) := by
  refine returnsInHanded_of_change_and (C := Tryz.checked) (X := fun w _ => laidMetH Tryz.prog laid5 w) (fun _ _ _ hh h => h.of_heap hh) iplays_own started (by kernel_rfl) Tryz.func3
    (ChangeSpec.witness_shaped (enc := enc) (C := Tryz.checked) (os := os) (X := fun w _ => laidMetH Tryz.prog laid5 w) false (World.laidAll Tryz.prog os laid5) #[.slice none 0 0] 8 (World.laidAll_os _ _ _)
      (World.shaped_of_ZipB (by kernel_rfl) (by kernel_rfl)) (by kernel_rfl) (by kernel_rfl) (by kernel_rfl)
      (by rw [MakeChecks.laidMetH_plain _ _ _ (by kernel_rfl)]; exact laidMet_laidAll _ (by kernel_rfl) (by kernel_rfl))) ?_
  intro W base args ds gs before hval0 hW hcnd _ hL _
  have hval : ∀ (j : Nat) t v, Tryz.f3.params[j]? = some t → args[j]? = some v → Value.okWide Tryz.prog W .any base t v := hval0
  have hW' := hW
  obtain ⟨p, q, hA0, hV, rfl, hfz, hnd⟩ := hW
  have hA : DataW.TrodAll enc Tryz.prog W 0 (fun _ => true) true Tryz.f3.params.toList args.toList ds p := hA0
  rw [Tryz.params3] at hA hval
  obtain ⟨v0, vs0, d0, ds0, p0, q0, hargs, rfl, rfl, h0, r0⟩ := trodAll_cons hA
  obtain ⟨rfl, rfl, rfl⟩ := trodAll_nil r0
  obtain rfl : args = #[v0] := by cases args; simp_all
  obtain ⟨rfl, rfl⟩ := trodVars_none hV
  have k0 := h0
  have lt0 : ∀ x ∈ p0, x.block < W.heap.size := by obtain ⟨m, hm⟩ := k0; exact DataW.trod_lt m _ _ _ hm
  obtain ⟨a0, c0, l0, rfl, hb0⟩ := open_acts20 (hval 0 22 v0 rfl rfl) h0
  have hT := tabs5_of_laid hL
  clear hA0 hval0
  simp only [List.append_nil] at hW'
  refine (walk_iplaysW W hT a0 c0 l0 hb0).mono fun e W' ⟨he, hfr⟩ => ?_
  subst he
  have bel : Below W.heap.size W W' := hfr.below (Nat.le_refl _) (fun k hk => by simp at hk)
  exact ⟨_, rfl, _, _, _, [], _, [], hW', trodAll_mk1 (shut_bool Tryz.underlying4 _), (trodAll_cons_mk (Below.trod iplays_out (by kernel_rfl) (of_decide_eq_true (by kernel_rfl)) k0 bel lt0) trodAll_mk0), rfl, bel.frame _, fun h => by cases h⟩

theorem iplays_j0 : (Rows.indexPlaysRow.wf (OpenSpec.ofChange Rows.indexPlaysSpec)) = true := by kernel_rfl
theorem iplays_j1 : (laidOutB Tryz.prog) = true := by kernel_rfl
theorem iplays_j2 : (mapsRowed Tryz.prog) = true := by kernel_rfl
theorem iplays_j3 : (Tryz.f3.params.all (Tryz.prog.readableRec ·)) = true := by kernel_rfl
theorem iplays_j4 : (namedTie Tryz.prog Rows.indexPlaysRow.named Rows.indexPlaysSpec.vars) = true := by kernel_rfl
theorem iplays_j5 : ((Rows.indexPlaysRow.stops == [])) = true := by kernel_rfl
theorem iplays_j6 : ((Tryz.prog.stops == [])) = true := by kernel_rfl
theorem iplays_j7 : ((Rows.indexPlaysRow.knobs == [])) = true := by kernel_rfl
theorem iplays_j8 : ((Tryz.prog.stopKnobs == [])) = true := by kernel_rfl
theorem iplays_j9 : ((Rows.indexPlaysRow.inPlace == Tryz.prog.inPlace 3)) = true := by kernel_rfl
theorem iplays_j10 : ((Rows.indexPlaysRow.unfollowed == Tryz.prog.unfollowed 3)) = true := by kernel_rfl
theorem iplays_j11 : ((Rows.indexPlaysRow.recurses == Tryz.prog.recurses 3)) = true := by kernel_rfl
theorem iplays_j12 : ((Rows.indexPlaysRow.named == Tryz.prog.varsNamed 3)) = true := by kernel_rfl
theorem iplays_j13 : ((Rows.indexPlaysRow.maps == (Tryz.f3.params.toList ++ Rows.indexPlaysSpec.plain.varTypes Tryz.prog).any (Tryz.prog.mapsRec ·))) = true := by kernel_rfl
theorem iplays_j14 : ((Rows.indexPlaysRow.ifaces == (Tryz.f3.params.toList ++ Rows.indexPlaysSpec.plain.varTypes Tryz.prog).any (Tryz.prog.ifacesRec ·))) = true := by kernel_rfl
theorem iplays_j15 : ((Rows.indexPlaysRow.mapsOut == Tryz.prog.mapsAmong Tryz.f3.resultTypes.toList)) = true := by kernel_rfl
theorem iplays_j16 : ((Rows.indexPlaysRow.loops == (Tryz.f3.params.toList ++ Rows.indexPlaysSpec.plain.varTypes Tryz.prog).any (Tryz.prog.loopsFrom ·))) = true := by kernel_rfl
theorem iplays_j17 : ((Rows.indexPlaysRow.wideKeys == (Tryz.f3.params.toList ++ Rows.indexPlaysSpec.plain.varTypes Tryz.prog ++ Tryz.f3.resultTypes.toList).any (Tryz.prog.wideKeysFrom ·))) = true := by kernel_rfl
theorem iplays_j18 : (Rows.indexPlaysSpec.vars.all (Tryz.prog.varReadable ·)) = true := by kernel_rfl
theorem iplays_j19 : (Tryz.f3.resultTypes.all (fun t => Tryz.prog.readableRec t && decide (t < Tryz.prog.types.size))) = true := by kernel_rfl
theorem iplays_j20 : ((Rows.indexPlaysRow.ifacesOut == Tryz.f3.resultTypes.toList.any (Tryz.prog.ifacesRec ·))) = true := by kernel_rfl
theorem iplays_j21 : ((Rows.indexPlaysRow.loopsOut == Tryz.f3.resultTypes.toList.any (Tryz.prog.loopsFrom ·))) = true := by kernel_rfl
theorem iplays_j22 : ((Rows.indexPlaysRow.plainKeys == Tryz.prog.plainKeys)) = true := by kernel_rfl
theorem iplays_j23 : (Rows.indexPlaysRow.shortTexts.isNone) = true := by kernel_rfl
theorem iplays_j24 : (Tryz.prog.stopsHeard) = true := by kernel_rfl
theorem iplays_j25 : (Tryz.prog.mayEnter) = true := by kernel_rfl
theorem iplays_j26 : ((Rows.indexPlaysRow.lifted == Tryz.prog.liftsFinal)) = true := by kernel_rfl
theorem iplays_j27 : ((Tryz.prog.make == some Rows.indexPlaysRow.make)) = true := by kernel_rfl
theorem iplays_j29 : ((Rows.indexPlaysRow.pinned == Rows.indexPlaysRow.pinnedBy)) = true := by kernel_rfl
theorem iplays_j30 : ((Rows.indexPlaysRow.veiled == (Tryz.f3.params.toList ++ Rows.indexPlaysSpec.plain.varTypes Tryz.prog ++ Tryz.f3.resultTypes.toList).any (Tryz.prog.veiledRec ·))) = true := by kernel_rfl
theorem iplays_j31 : (Rows.indexPlaysRow.veiledFits Tryz.prog Tryz.f3.params.toList (Tryz.f3.params.toList ++ Rows.indexPlaysSpec.plain.varTypes Tryz.prog ++ Tryz.f3.resultTypes.toList)) = true := by kernel_rfl
theorem iplays_and {a b : Bool} (h1 : a = true) (h2 : b = true) : (a && b) = true := by rw [h1, h2]; rfl
set_option maxRecDepth 100000 in
theorem iplays_joined : joinedFacts Tryz.prog 3 Tryz.f3 Rows.indexPlaysSpec Rows.indexPlaysRow = true := by
  unfold joinedFacts
  refine (iplays_and (iplays_and (iplays_and (iplays_and (iplays_and (iplays_and (iplays_and (iplays_and (iplays_and (iplays_and (iplays_and (iplays_and (iplays_and (iplays_and (iplays_and (iplays_and (iplays_and (iplays_and (iplays_and (iplays_and (iplays_and (iplays_and (iplays_and (iplays_and (iplays_and (iplays_and (iplays_and (iplays_and (iplays_and (iplays_and (iplays_and iplays_j0 iplays_j1) iplays_j2) iplays_j3) iplays_j4) iplays_j5) iplays_j6) iplays_j7) iplays_j8) iplays_j9) iplays_j10) iplays_j11) iplays_j12) iplays_j13) iplays_j14) iplays_j15) iplays_j16) iplays_j17) iplays_j18) iplays_j19) iplays_j20) iplays_j21) iplays_j22) iplays_j23) iplays_j24) iplays_j25) iplays_j26) iplays_j27) ?_) iplays_j29) iplays_j30) iplays_j31)
  as_aux_lemma => kernel_rfl
theorem indexPlays_row : Rows.IndexPlaysSaid :=
  OpenClaim.holds_of_wide 3 Tryz.f3 rfl rfl rfl rfl rfl rfl rfl ⟨rfl, rfl, rfl, rfl, rfl⟩ rfl rfl rfl rfl rfl (by as_aux_lemma => kernel_rfl) Tryz.func3 iplays_joined
    (of_decide_eq_true (by as_aux_lemma => kernel_rfl)) (by as_aux_lemma => unfold Func.isWrapper; first | (rw [if_pos (by decide +kernel)]; kernel_rfl) | (rw [if_neg (by decide +kernel)]; exact ⟨rfl, rfl⟩))
    (fun os started H enc _ => lifted_iplays os started H enc)
theorem indexPlays_holds : Rows.IndexPlaysCardSaid :=
  Claim7.holds_tied_plain_at .later [] [.data, .widerDeep, .data, .data, .data] true (true, "4cc1806c6cf9f354c6d5eb1ac53c5af01547e4b11168f715a2048ac83dd927f7") true
    indexPlays_row (fun _ h => by cases h) (by as_aux_lemma => kernel_rfl) (fun _ h => by cases h) indexPlays_row_tie rfl ⟨rfl, rfl⟩ (by as_aux_lemma => kernel_rfl) rfl
    (fun f fn hf hfn => by
      obtain rfl : f = 3 := Option.some.inj ((show Tryz.prog.funcNamed "columbarium/columbariumlaw20.IndexPlays" = some 3 by kernel_rfl).symm.trans hf) |>.symm
      obtain rfl : fn = Tryz.f3 := (Option.some.inj (Tryz.func3.symm.trans hfn)).symm
      exact ⟨by as_aux_lemma => kernel_rfl, fun j t ht => by
        rw [Tryz.params3] at ht
        have hm : t ∈ [22] := by simpa using Array.mem_of_getElem? ht
        have hall : ([22].all fun u => !Tryz.prog.wantsStandIn u) = true := by as_aux_lemma => kernel_rfl
        exact (show Tryz.prog.wantsStandIn t = false by simpa using List.all_eq_true.1 hall t hm)⟩)
    (by as_aux_lemma => kernel_rfl)
#print axioms indexPlays_holds
end Go.Proofs.YtmemoopkgjgmiaaGreatDoor
