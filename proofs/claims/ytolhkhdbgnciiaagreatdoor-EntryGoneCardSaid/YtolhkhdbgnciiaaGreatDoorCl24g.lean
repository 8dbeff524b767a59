/- EntryGone returns true at every input, and every argument reads as it did: the tied card; no condition. -/
import Derived.Test.YtolhkhdbgnciiaaGreatDoorCards
import Derived.Test.YtolhkhdbgnciiaaGreatDoorTie
import Derived.Test.YtolhkhdbgnciiaaGreatDoorLaw24g
import Derived.Test.YtolhkhdbgnciiaaGreatDoorLaid15
import Derived.LaidMore
namespace Go.Proofs.YtolhkhdbgnciiaaGreatDoor
open Go.ChangeShapes Go.WideShapes Go.ChangeAt Go.RowKit
open Go.ChangeMaps (open_string shut_string)
set_option linter.unusedVariables false
set_option linter.unusedSimpArgs false
theorem egone_out : laidOutB Tryz.prog = true := by kernel_rfl
theorem egone_own : ownKnob Tryz.prog.godebug = none := by kernel_rfl
set_option maxRecDepth 100000 in
theorem lifted_egone (os : Os) (started : os.Started) (H : Type) (enc : TypeId × Value → H) :
    ReturnsInHanded {} Tryz.checked os 5 .any (fun w args => (Rows.entryGoneSpec.pre enc Tryz.prog Tryz.f5 Rows.entryGoneRow.domain false w args ∧ laidMetH Tryz.prog laid5 w) ∧ sizedMet enc Tryz.prog Tryz.f5 (OpenSpec.ofChange Rows.entryGoneSpec) false w args)
      (Rows.entryGoneSpec.post enc Tryz.prog Tryz.f5 false true false false) := by
  refine returnsInHanded_of_change_and (C := Tryz.checked) (X := fun w _ => laidMetH Tryz.prog laid5 w) (fun _ _ _ hh h => h.of_heap hh) egone_own started (by kernel_rfl) Tryz.func5
    (ChangeSpec.witness_shaped (enc := enc) (C := Tryz.checked) (os := os) (X := fun w _ => laidMetH Tryz.prog laid5 w) false (World.laidAll Tryz.prog os laid5) #[.slice none 0 0, .int .i64 0] 8 (World.laidAll_os _ _ _)
      (World.shaped_of_ZipB (by kernel_rfl) (by kernel_rfl)) (by kernel_rfl) (by kernel_rfl) (by kernel_rfl)
      (by rw [MakeChecks.laidMetH_plain _ _ _ (by kernel_rfl)]; exact laidMet_laidAll _ (by kernel_rfl) (by kernel_rfl))) ?_
  intro W base args ds gs before hval0 hW hcnd _ hL _
  have hval : ∀ (j : Nat) t v, Tryz.f5.params[j]? = some t → args[j]? = some v → Value.okWide Tryz.prog W .any base t v := hval0
  have hW' := hW
  obtain ⟨p, q, hA0, hV, rfl, hfz, hnd⟩ := hW
  have hA : DataW.TrodAll enc Tryz.prog W 0 (fun _ => true) true Tryz.f5.params.toList args.toList ds p := hA0
  rw [Tryz.params5] at hA hval
  obtain ⟨v0, vs0, d0, ds0, p0, q0, hargs, rfl, rfl, h0, r0⟩ := trodAll_cons hA
  obtain ⟨v1, vs1, d1, ds1, p1, q1, rfl, rfl, rfl, h1, r1⟩ := trodAll_cons r0
  obtain ⟨rfl, rfl, rfl⟩ := trodAll_nil r1
  obtain rfl : args = #[v0, v1] := by cases args; simp_all
  obtain ⟨rfl, rfl⟩ := trodVars_none hV
  have k0 := h0
  have lt0 : ∀ x ∈ p0, x.block < W.heap.size := by obtain ⟨m, hm⟩ := k0; exact DataW.trod_lt m _ _ _ hm
  obtain ⟨a0, c0, l0, rfl, hb0⟩ := open_acts24 (hval 0 22 v0 rfl rfl) h0
  obtain ⟨a1, rfl, rfl, rfl, w1⟩ := open_int Tryz.underlying3 (hval 1 3 v1 rfl rfl) h1
  have hT := tabs5_of_laid hL
  clear hA0 hval0
  simp only [List.append_nil] at hW'
  refine (walk_egoneW W hT a0 c0 l0 hb0 a1).mono fun e W' ⟨he, hfr⟩ => ?_
  subst he
  have bel : Below W.heap.size W W' := hfr.below (Nat.le_refl _) (fun k hk => by simp at hk)
  exact ⟨_, rfl, _, _, _, [], _, [], hW', trodAll_mk1 (shut_bool Tryz.underlying4 _), (trodAll_cons_mk (Below.trod egone_out (by kernel_rfl) (of_decide_eq_true (by kernel_rfl)) k0 bel lt0) (trodAll_cons_mk (shut_int Tryz.underlying3 w1) trodAll_mk0)), rfl, bel.frame _, fun h => by cases h⟩
theorem egone_j0 : (Rows.entryGoneRow.wf (OpenSpec.ofChange Rows.entryGoneSpec)) = true := by kernel_rfl
theorem egone_j1 : (laidOutB Tryz.prog) = true := by kernel_rfl
theorem egone_j2 : (mapsRowed Tryz.prog) = true := by kernel_rfl
theorem egone_j3 : (Tryz.f5.params.all (Tryz.prog.readableRec ·)) = true := by kernel_rfl
theorem egone_j4 : (namedTie Tryz.prog Rows.entryGoneRow.named Rows.entryGoneSpec.vars) = true := by kernel_rfl
theorem egone_j5 : ((Rows.entryGoneRow.stops == [])) = true := by kernel_rfl
theorem egone_j6 : ((Tryz.prog.stops == [])) = true := by kernel_rfl
theorem egone_j7 : ((Rows.entryGoneRow.knobs == [])) = true := by kernel_rfl
theorem egone_j8 : ((Tryz.prog.stopKnobs == [])) = true := by kernel_rfl
theorem egone_j9 : ((Rows.entryGoneRow.inPlace == Tryz.prog.inPlace 5)) = true := by kernel_rfl
theorem egone_j10 : ((Rows.entryGoneRow.unfollowed == Tryz.prog.unfollowed 5)) = true := by kernel_rfl
theorem egone_j11 : ((Rows.entryGoneRow.recurses == Tryz.prog.recurses 5)) = true := by kernel_rfl
theorem egone_j12 : ((Rows.entryGoneRow.named == Tryz.prog.varsNamed 5)) = true := by kernel_rfl
theorem egone_j13 : ((Rows.entryGoneRow.maps == (Tryz.f5.params.toList ++ Rows.entryGoneSpec.plain.varTypes Tryz.prog).any (Tryz.prog.mapsRec ·))) = true := by kernel_rfl
theorem egone_j14 : ((Rows.entryGoneRow.ifaces == (Tryz.f5.params.toList ++ Rows.entryGoneSpec.plain.varTypes Tryz.prog).any (Tryz.prog.ifacesRec ·))) = true := by kernel_rfl
theorem egone_j15 : ((Rows.entryGoneRow.mapsOut == Tryz.prog.mapsAmong Tryz.f5.resultTypes.toList)) = true := by kernel_rfl
theorem egone_j16 : ((Rows.entryGoneRow.loops == (Tryz.f5.params.toList ++ Rows.entryGoneSpec.plain.varTypes Tryz.prog).any (Tryz.prog.loopsFrom ·))) = true := by kernel_rfl
theorem egone_j17 : ((Rows.entryGoneRow.wideKeys == (Tryz.f5.params.toList ++ Rows.entryGoneSpec.plain.varTypes Tryz.prog ++ Tryz.f5.resultTypes.toList).any (Tryz.prog.wideKeysFrom ·))) = true := by kernel_rfl
theorem egone_j18 : (Rows.entryGoneSpec.vars.all (Tryz.prog.varReadable ·)) = true := by kernel_rfl
theorem egone_j19 : (Tryz.f5.resultTypes.all (fun t => Tryz.prog.readableRec t && decide (t < Tryz.prog.types.size))) = true := by kernel_rfl
theorem egone_j20 : ((Rows.entryGoneRow.ifacesOut == Tryz.f5.resultTypes.toList.any (Tryz.prog.ifacesRec ·))) = true := by kernel_rfl
theorem egone_j21 : ((Rows.entryGoneRow.loopsOut == Tryz.f5.resultTypes.toList.any (Tryz.prog.loopsFrom ·))) = true := by kernel_rfl
theorem egone_j22 : ((Rows.entryGoneRow.plainKeys == Tryz.prog.plainKeys)) = true := by kernel_rfl
theorem egone_j23 : (Rows.entryGoneRow.shortTexts.isNone) = true := by kernel_rfl
theorem egone_j24 : (Tryz.prog.stopsHeard) = true := by kernel_rfl
theorem egone_j25 : (Tryz.prog.mayEnter) = true := by kernel_rfl
theorem egone_j26 : ((Rows.entryGoneRow.lifted == Tryz.prog.liftsFinal)) = true := by kernel_rfl
theorem egone_j27 : ((Tryz.prog.make == some Rows.entryGoneRow.make)) = true := by kernel_rfl
theorem egone_j29 : ((Rows.entryGoneRow.pinned == Rows.entryGoneRow.pinnedBy)) = true := by kernel_rfl
theorem egone_j30 : ((Rows.entryGoneRow.veiled == (Tryz.f5.params.toList ++ Rows.entryGoneSpec.plain.varTypes Tryz.prog ++ Tryz.f5.resultTypes.toList).any (Tryz.prog.veiledRec ·))) = true := by kernel_rfl
theorem egone_j31 : (Rows.entryGoneRow.veiledFits Tryz.prog Tryz.f5.params.toList (Tryz.f5.params.toList ++ Rows.entryGoneSpec.plain.varTypes Tryz.prog ++ Tryz.f5.resultTypes.toList)) = true := by kernel_rfl
theorem egone_and {a b : Bool} (h1 : a = true) (h2 : b = true) : (a && b) = true := by rw [h1, h2]; rfl
set_option maxRecDepth 100000 in
theorem egone_joined : joinedFacts Tryz.prog 5 Tryz.f5 Rows.entryGoneSpec Rows.entryGoneRow = true := by
  unfold joinedFacts
  refine (egone_and (egone_and (egone_and (egone_and (egone_and (egone_and (egone_and (egone_and (egone_and (egone_and (egone_and (egone_and (egone_and (egone_and (egone_and (egone_and (egone_and (egone_and (egone_and (egone_and (egone_and (egone_and (egone_and (egone_and (egone_and (egone_and (egone_and (egone_and (egone_and (egone_and (egone_and egone_j0 egone_j1) egone_j2) egone_j3) egone_j4) egone_j5) egone_j6) egone_j7) egone_j8) egone_j9) egone_j10) egone_j11) egone_j12) egone_j13) egone_j14) egone_j15) egone_j16) egone_j17) egone_j18) egone_j19) egone_j20) egone_j21) egone_j22) egone_j23) egone_j24) egone_j25) egone_j26) egone_j27) ?_) egone_j29) egone_j30) egone_j31)
  as_aux_lemma => kernel_rfl
theorem entryGone_row : Rows.EntryGoneSaid :=
  OpenClaim.holds_of_wide 5 Tryz.f5 rfl rfl rfl rfl rfl rfl rfl ⟨rfl, rfl, rfl, rfl, rfl⟩ rfl rfl rfl rfl rfl (by as_aux_lemma => kernel_rfl) Tryz.func5 egone_joined
    (of_decide_eq_true (by as_aux_lemma => kernel_rfl)) (by as_aux_lemma => unfold Func.isWrapper; first | (rw [if_pos (by decide +kernel)]; kernel_rfl) | (rw [if_neg (by decide +kernel)]; exact ⟨rfl, rfl⟩))
    (fun os started H enc _ => lifted_egone os started H enc)
theorem entryGone_holds : Rows.EntryGoneCardSaid :=
  Claim7.holds_tied_plain_at .later [] [.data, .widerDeep, .data, .data, .data] true (true, "0f3107695fff511d3bc61653d6dc9e1d65516ab92abead704dc5710afb423c3f") true
    entryGone_row (fun _ h => by cases h) (by as_aux_lemma => kernel_rfl) (fun _ h => by cases h) entryGone_row_tie rfl ⟨rfl, rfl⟩ (by as_aux_lemma => kernel_rfl) rfl
    (fun f fn hf hfn => by
      obtain rfl : f = 5 := Option.some.inj ((show Tryz.prog.funcNamed "columbarium/columbariumlaw24.EntryGone" = some 5 by kernel_rfl).symm.trans hf) |>.symm
      obtain rfl : fn = Tryz.f5 := (Option.some.inj (Tryz.func5.symm.trans hfn)).symm
      exact ⟨by as_aux_lemma => kernel_rfl, fun j t ht => by
        rw [Tryz.params5] at ht
        have hm : t ∈ [22, 3] := by simpa using Array.mem_of_getElem? ht
        have hall : ([22, 3].all fun u => !Tryz.prog.wantsStandIn u) = true := by as_aux_lemma => kernel_rfl
        exact (show Tryz.prog.wantsStandIn t = false by simpa using List.all_eq_true.1 hall t hm)⟩)
    (by as_aux_lemma => kernel_rfl)
#print axioms entryGone_holds
end Go.Proofs.YtolhkhdbgnciiaaGreatDoor
