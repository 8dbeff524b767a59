/- SlabPlays returns true at every input, and every argument reads as it did: the tied card; no condition. -/
import Derived.Test.YtkapkbiccppldaaGreatDoorRows
import Derived.Test.YtkapkbiccppldaaGreatDoorCards
import Derived.Test.YtkapkbiccppldaaGreatDoorTie
import Derived.Test.YtkapkbiccppldaaGreatDoorLaw15p
import Derived.Test.YtkapkbiccppldaaGreatDoorLaid15
import Derived.Test.YtkapkbiccppldaaGreatDoorGN
import Derived.WalkKit
import Derived.ProofKit
import Derived.LaidMore
import Derived.OpenShut
import Derived.Stop.Joined
import Derived.SevenTiedAt
import Derived.Lay
import Derived.ShutString
import Derived.ChangeOld
import Derived.Below
namespace Go.Proofs.YtkapkbiccppldaaGreatDoor
open Go.ChangeShapes Go.WideShapes Go.ChangeAt Go.RowKit
open Go.ChangeMaps (open_string shut_string)
set_option linter.unusedVariables false
set_option linter.unusedSimpArgs false

theorem splays_out : laidOutB Tryz.prog = true := by kernel_rfl
theorem splays_own : ownKnob Tryz.prog.godebug = none := by kernel_rfl
set_option maxRecDepth 100000 in
theorem lifted_splays (os : Os) (started : os.Started) (H : Type) (enc : TypeId × Value → H) :
    ReturnsInHanded {} Tryz.checked os 6 .any (fun w args => (Rows.slabPlaysSpec.pre enc Tryz.prog Tryz.f6 Rows.slabPlaysRow.domain false w args ∧ laidMetH Tryz.prog laid5 w) ∧ sizedMet enc Tryz.prog Tryz.f6 (OpenSpec.ofChange Rows.slabPlaysSpec) false w args)
      (Rows.slabPlaysSpec.post enc Tryz.prog Tryz.f6 false true false false) := by
  refine returnsInHanded_of_change_and (C := Tryz.checked) (X := fun w _ => laidMetH Tryz.prog laid5 w) (fun _ _ _ hh h => h.of_heap hh) splays_own started (by kernel_rfl) Tryz.func6
    (ChangeSpec.witness_shaped (enc := enc) (C := Tryz.checked) (os := os) (X := fun w _ => laidMetH Tryz.prog laid5 w) false (World.laidAll Tryz.prog os laid5) #[.int .i64 0, .slice none 0 0] 8 (World.laidAll_os _ _ _)
      (World.shaped_of_ZipB (by kernel_rfl) (by kernel_rfl)) (by kernel_rfl) (by kernel_rfl) (by kernel_rfl)
      (by rw [MakeChecks.laidMetH_plain _ _ _ (by kernel_rfl)]; exact laidMet_laidAll _ (by kernel_rfl) (by kernel_rfl))) ?_
  intro W base args ds gs before hval0 hW hcnd _ hL _
  have hval : ∀ (j : Nat) t v, Tryz.f6.params[j]? = some t → args[j]? = some v → Value.okWide Tryz.prog W .any base t v := hval0
  have hW' := hW
  obtain ⟨p, q, hA0, hV, rfl, hfz, hnd⟩ := hW
  have hA : DataW.TrodAll enc Tryz.prog W 0 (fun _ => true) true Tryz.f6.params.toList args.toList ds p := hA0
  rw [Tryz.params6] at hA hval
  obtain ⟨v0, vs0, d0, ds0, p0, q0, hargs, rfl, rfl, h0, r0⟩ := trodAll_cons hA
  obtain ⟨v1, vs1, d1, ds1, p1, q1, rfl, rfl, rfl, h1, r1⟩ := trodAll_cons r0
  obtain ⟨rfl, rfl, rfl⟩ := trodAll_nil r1
  obtain rfl : args = #[v0, v1] := by cases args; simp_all
  obtain ⟨rfl, rfl⟩ := trodVars_none hV
  obtain ⟨a0, rfl, rfl, rfl, w0⟩ := open_int Tryz.underlying3 (hval 0 3 v0 rfl rfl) h0
  have k1 := h1
  have lt1 : ∀ x ∈ p1, x.block < W.heap.size := by obtain ⟨m, hm⟩ := k1; exact DataW.trod_lt m _ _ _ hm
  obtain ⟨a1, c1, l1, rfl, hb1⟩ := open_acts15 (hval 1 22 v1 rfl rfl) h1
  have hT := tabs5_of_laid hL
  clear hA0 hval0
  simp only [List.append_nil] at hW'
  refine (walk_splaysW W hT a0 a1 c1 l1 hb1).mono fun e W' ⟨he, hfr⟩ => ?_
  subst he
  have bel : Below W.heap.size W W' := hfr.below (Nat.le_refl _) (fun k hk => by simp at hk)
  exact ⟨_, rfl, _, _, _, [], _, [], hW', trodAll_mk1 (shut_bool Tryz.underlying4 _), (trodAll_cons_mk (shut_int Tryz.underlying3 w0) (trodAll_cons_mk (Below.trod splays_out (by kernel_rfl) (of_decide_eq_true (by kernel_rfl)) k1 bel lt1) trodAll_mk0)), rfl, bel.frame _, fun h => by cases h⟩

theorem splays_j0 : (Rows.slabPlaysRow.wf (OpenSpec.ofChange Rows.slabPlaysSpec)) = true := by kernel_rfl
theorem splays_j1 : (laidOutB Tryz.prog) = true := by kernel_rfl
theorem splays_j2 : (mapsRowed Tryz.prog) = true := by kernel_rfl
theorem splays_j3 : (Tryz.f6.params.all (Tryz.prog.readableRec ·)) = true := by kernel_rfl
theorem splays_j4 : (namedTie Tryz.prog Rows.slabPlaysRow.named Rows.slabPlaysSpec.vars) = true := by kernel_rfl
theorem splays_j5 : ((Rows.slabPlaysRow.stops == [])) = true := by kernel_rfl
theorem splays_j6 : ((Tryz.prog.stops == [])) = true := by kernel_rfl
theorem splays_j7 : ((Rows.slabPlaysRow.knobs == [])) = true := by kernel_rfl
theorem splays_j8 : ((Tryz.prog.stopKnobs == [])) = true := by kernel_rfl
theorem splays_j9 : ((Rows.slabPlaysRow.inPlace == Tryz.prog.inPlace 6)) = true := by kernel_rfl
theorem splays_j10 : ((Rows.slabPlaysRow.unfollowed == Tryz.prog.unfollowed 6)) = true := by kernel_rfl
theorem splays_j11 : ((Rows.slabPlaysRow.recurses == Tryz.prog.recurses 6)) = true := by kernel_rfl
theorem splays_j12 : ((Rows.slabPlaysRow.named == Tryz.prog.varsNamed 6)) = true := by kernel_rfl
theorem splays_j13 : ((Rows.slabPlaysRow.maps == (Tryz.f6.params.toList ++ Rows.slabPlaysSpec.plain.varTypes Tryz.prog).any (Tryz.prog.mapsRec ·))) = true := by kernel_rfl
theorem splays_j14 : ((Rows.slabPlaysRow.ifaces == (Tryz.f6.params.toList ++ Rows.slabPlaysSpec.plain.varTypes Tryz.prog).any (Tryz.prog.ifacesRec ·))) = true := by kernel_rfl
theorem splays_j15 : ((Rows.slabPlaysRow.mapsOut == Tryz.prog.mapsAmong Tryz.f6.resultTypes.toList)) = true := by kernel_rfl
theorem splays_j16 : ((Rows.slabPlaysRow.loops == (Tryz.f6.params.toList ++ Rows.slabPlaysSpec.plain.varTypes Tryz.prog).any (Tryz.prog.loopsFrom ·))) = true := by kernel_rfl
theorem splays_j17 : ((Rows.slabPlaysRow.wideKeys == (Tryz.f6.params.toList ++ Rows.slabPlaysSpec.plain.varTypes Tryz.prog ++ Tryz.f6.resultTypes.toList).any (Tryz.prog.wideKeysFrom ·))) = true := by kernel_rfl
theorem splays_j18 : (Rows.slabPlaysSpec.vars.all (Tryz.prog.varReadable ·)) = true := by kernel_rfl
theorem splays_j19 : (Tryz.f6.resultTypes.all (fun t => Tryz.prog.readableRec t && decide (t < Tryz.prog.types.size))) = true := by kernel_rfl
theorem splays_j20 : ((Rows.slabPlaysRow.ifacesOut == Tryz.f6.resultTypes.toList.any (Tryz.prog.ifacesRec ·))) = true := by kernel_rfl
theorem splays_j21 : ((Rows.slabPlaysRow.loopsOut == Tryz.f6.resultTypes.toList.any (Tryz.prog.loopsFrom ·))) = true := by kernel_rfl
theorem splays_j22 : ((Rows.slabPlaysRow.plainKeys == Tryz.prog.plainKeys)) = true := by kernel_rfl
theorem splays_j23 : (Rows.slabPlaysRow.shortTexts.isNone) = true := by kernel_rfl
theorem splays_j24 : (Tryz.prog.stopsHeard) = true := by kernel_rfl
theorem splays_j25 : (Tryz.prog.mayEnter) = true := by kernel_rfl
theorem splays_j26 : ((Rows.slabPlaysRow.lifted == Tryz.prog.liftsFinal)) = true := by kernel_rfl
theorem splays_j27 : ((Tryz.prog.make == some Rows.slabPlaysRow.make)) = true := by kernel_rfl
theorem splays_j29 : ((Rows.slabPlaysRow.pinned == Rows.slabPlaysRow.pinnedBy)) = true := by kernel_rfl
theorem splays_j30 : ((Rows.slabPlaysRow.veiled == (Tryz.f6.params.toList ++ Rows.slabPlaysSpec.plain.varTypes Tryz.prog ++ Tryz.f6.resultTypes.toList).any (Tryz.prog.veiledRec ·))) = true := by kernel_rfl
theorem splays_j31 : (Rows.slabPlaysRow.veiledFits Tryz.prog Tryz.f6.params.toList (Tryz.f6.params.toList ++ Rows.slabPlaysSpec.plain.varTypes Tryz.prog ++ Tryz.f6.resultTypes.toList)) = true := by kernel_rfl
theorem splays_and {a b : Bool} (h1 : a = true) (h2 : b = true) : (a && b) = true := by rw [h1, h2]; rfl
set_option maxRecDepth 100000 in
theorem splays_joined : joinedFacts Tryz.prog 6 Tryz.f6 Rows.slabPlaysSpec Rows.slabPlaysRow = true := by
  unfold joinedFacts
  refine (splays_and (splays_and (splays_and (splays_and (splays_and (splays_and (splays_and (splays_and (splays_and (splays_and (splays_and (splays_and (splays_and (splays_and (splays_and (splays_and (splays_and (splays_and (splays_and (splays_and (splays_and (splays_and (splays_and (splays_and (splays_and (splays_and (splays_and (splays_and (splays_and (splays_and (splays_and splays_j0 splays_j1) splays_j2) splays_j3) splays_j4) splays_j5) splays_j6) splays_j7) splays_j8) splays_j9) splays_j10) splays_j11) splays_j12) splays_j13) splays_j14) splays_j15) splays_j16) splays_j17) splays_j18) splays_j19) splays_j20) splays_j21) splays_j22) splays_j23) splays_j24) splays_j25) splays_j26) splays_j27) ?_) splays_j29) splays_j30) splays_j31)
  as_aux_lemma => kernel_rfl
theorem slabPlays_row : Rows.SlabPlaysSaid :=
  OpenClaim.holds_of_wide 6 Tryz.f6 rfl rfl rfl rfl rfl rfl rfl ⟨rfl, rfl, rfl, rfl, rfl⟩ rfl rfl rfl rfl rfl (by as_aux_lemma => kernel_rfl) Tryz.func6 splays_joined
    (of_decide_eq_true (by as_aux_lemma => kernel_rfl)) (by as_aux_lemma => unfold Func.isWrapper; first | (rw [if_pos (by decide +kernel)]; kernel_rfl) | (rw [if_neg (by decide +kernel)]; exact ⟨rfl, rfl⟩))
    (fun os started H enc _ => lifted_splays os started H enc)
theorem slabPlays_holds : Rows.SlabPlaysCardSaid :=
  Claim7.holds_tied_plain_at .later [] [.data, .widerDeep, .data, .data, .data] true (true, "0ccafe196cc1747ee087a7eadb183d06cce4d5f351445ab3427afae79d1f992a") false
    slabPlays_row (fun _ h => by cases h) (by as_aux_lemma => kernel_rfl) (fun _ h => by cases h) slabPlays_row_tie rfl ⟨rfl, rfl⟩ (by as_aux_lemma => kernel_rfl) rfl
    (fun f fn hf hfn => by
      obtain rfl : f = 6 := Option.some.inj ((show Tryz.prog.funcNamed "columbarium/columbariumlaw15.SlabPlays" = some 6 by kernel_rfl).symm.trans hf) |>.symm
      obtain rfl : fn = Tryz.f6 := (Option.some.inj (Tryz.func6.symm.trans hfn)).symm
      exact ⟨by as_aux_lemma => kernel_rfl, fun j t ht => by
        rw [Tryz.params6] at ht
        have hm : t ∈ [3, 22] := by simpa using Array.mem_of_getElem? ht
        have hall : ([3, 22].all fun u => !Tryz.prog.wantsStandIn u) = true := by as_aux_lemma => kernel_rfl
        exact (show Tryz.prog.wantsStandIn t = false by simpa using List.all_eq_true.1 hall t hm)⟩)
    (by as_aux_lemma => kernel_rfl)
#print axioms slabPlays_holds
end Go.Proofs.YtkapkbiccppldaaGreatDoor
