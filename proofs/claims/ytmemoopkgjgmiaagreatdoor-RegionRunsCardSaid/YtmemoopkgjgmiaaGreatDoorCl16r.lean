/- RegionRuns returns true at every input, and every argument reads as it did: the tied card; no condition. -/
import Derived.Test.YtmemoopkgjgmiaaGreatDoorRows
import Derived.Test.YtmemoopkgjgmiaaGreatDoorCards
import Derived.Test.YtmemoopkgjgmiaaGreatDoorTie
import Derived.Test.YtmemoopkgjgmiaaGreatDoorLaw16r
import Derived.Test.YtmemoopkgjgmiaaGreatDoorLaidE
import Derived.Test.YtmemoopkgjgmiaaGreatDoorOpen16r
import Derived.WalkKit
import Derived.ProofKit
import Derived.LaidMore
import Derived.OpenShut
import Derived.Stop.Joined
import Derived.SevenTiedAt
import Derived.Lay
import Derived.ShutString
import Derived.ChangeOld
import Derived.Below
namespace Go.Proofs.YtmemoopkgjgmiaaGreatDoor
open Go.ChangeShapes Go.WideShapes Go.ChangeAt Go.RowKit
open Go.ChangeMaps (open_string shut_string)
set_option linter.unusedVariables false
set_option linter.unusedSimpArgs false

theorem rruns_out : laidOutB Tryz.prog = true := by kernel_rfl
theorem rruns_own : ownKnob Tryz.prog.godebug = none := by kernel_rfl
set_option maxRecDepth 100000 in
theorem lifted_rruns (os : Os) (started : os.Started) (H : Type) (enc : TypeId × Value → H) :
    ReturnsInHanded {} Tryz.checked os 4 .any (fun w args => (Rows.regionRunsSpec.pre enc Tryz.prog Tryz.f4 Rows.regionRunsRow.domain false w args ∧ laidMetH Tryz.prog laidE w) ∧ sizedMet enc Tryz.prog Tryz.f4 (OpenSpec.ofChange Rows.regionRunsSpec) false w args)
      (Rows.regionRunsSpec.post enc Tryz.prog Tryz.f4 false true false false) := by
  refine returnsInHanded_of_change_and (C := Tryz.checked) (X := fun w _ => laidMetH Tryz.prog laidE w) (fun _ _ _ hh h => h.of_heap hh) rruns_own started (by kernel_rfl) Tryz.func4
    (ChangeSpec.witness_shaped (enc := enc) (C := Tryz.checked) (os := os) (X := fun w _ => laidMetH Tryz.prog laidE w) false (laidWE os) #[.slice none 0 0, .int .i64 0, .int .i64 0] 8 (laidWE_os os)
      (World.shaped_of_ZipB (by kernel_rfl) (by kernel_rfl)) (by kernel_rfl) (by kernel_rfl) (by kernel_rfl)
      (laidWE_met os _)) ?_
  intro W base args ds gs before hval0 hW hcnd _ hL _
  have hval : ∀ (j : Nat) t v, Tryz.f4.params[j]? = some t → args[j]? = some v → Value.okWide Tryz.prog W .any base t v := hval0
  have hW' := hW
  obtain ⟨p, q, hA0, hV, rfl, hfz, hnd⟩ := hW
  have hA : DataW.TrodAll enc Tryz.prog W 0 (fun _ => true) true Tryz.f4.params.toList args.toList ds p := hA0
  rw [Tryz.params4] at hA hval
  obtain ⟨v0, vs0, d0, ds0, p0, q0, hargs, rfl, rfl, h0, r0⟩ := trodAll_cons hA
  obtain ⟨v1, vs1, d1, ds1, p1, q1, rfl, rfl, rfl, h1, r1⟩ := trodAll_cons r0
  obtain ⟨v2, vs2, d2, ds2, p2, q2, rfl, rfl, rfl, h2, r2⟩ := trodAll_cons r1
  obtain ⟨rfl, rfl, rfl⟩ := trodAll_nil r2
  obtain rfl : args = #[v0, v1, v2] := by cases args; simp_all
  obtain ⟨rfl, rfl⟩ := trodVars_none hV
  have k0 := h0
  have lt0 : ∀ x ∈ p0, x.block < W.heap.size := by obtain ⟨m, hm⟩ := k0; exact DataW.trod_lt m _ _ _ hm
  obtain ⟨a0, c0, l0, rfl, hb0⟩ := open_acts16r (hval 0 54 v0 rfl rfl) h0
  obtain ⟨a1, rfl, rfl, rfl, w1⟩ := open_int Tryz.underlying3 (hval 1 3 v1 rfl rfl) h1
  obtain ⟨a2, rfl, rfl, rfl, w2⟩ := open_int Tryz.underlying3 (hval 2 3 v2 rfl rfl) h2
  have hT := tabsE_of_laid hL
  clear hA0 hval0
  simp only [List.append_nil] at hW'
  refine (walk_rrunsW W hT a0 c0 l0 hb0 a1 a2 (lit_i64 w2)).mono fun e W' ⟨he, hfr⟩ => ?_
  subst he
  have bel : Below W.heap.size W W' := hfr.below (Nat.le_refl _) (fun k hk => by simp at hk)
  exact ⟨_, rfl, _, _, _, [], _, [], hW', trodAll_mk1 (shut_bool Tryz.underlying4 _), (trodAll_cons_mk (Below.trod rruns_out (by kernel_rfl) (of_decide_eq_true (by kernel_rfl)) k0 bel lt0) (trodAll_cons_mk (shut_int Tryz.underlying3 w1) (trodAll_cons_mk (shut_int Tryz.underlying3 w2) trodAll_mk0))), rfl, bel.frame _, fun h => by cases h⟩

theorem rruns_j0 : (Rows.regionRunsRow.wf (OpenSpec.ofChange Rows.regionRunsSpec)) = true := by kernel_rfl
theorem rruns_j1 : (laidOutB Tryz.prog) = true := by kernel_rfl
theorem rruns_j2 : (mapsRowed Tryz.prog) = true := by kernel_rfl
theorem rruns_j3 : (Tryz.f4.params.all (Tryz.prog.readableRec ·)) = true := by kernel_rfl
theorem rruns_j4 : (namedTie Tryz.prog Rows.regionRunsRow.named Rows.regionRunsSpec.vars) = true := by kernel_rfl
theorem rruns_j5 : ((Rows.regionRunsRow.stops == [])) = true := by kernel_rfl
theorem rruns_j6 : ((Tryz.prog.stops == [])) = true := by kernel_rfl
theorem rruns_j7 : ((Rows.regionRunsRow.knobs == [])) = true := by kernel_rfl
theorem rruns_j8 : ((Tryz.prog.stopKnobs == [])) = true := by kernel_rfl
theorem rruns_j9 : ((Rows.regionRunsRow.inPlace == Tryz.prog.inPlace 4)) = true := by kernel_rfl
theorem rruns_j10 : ((Rows.regionRunsRow.unfollowed == Tryz.prog.unfollowed 4)) = true := by kernel_rfl
theorem rruns_j11 : ((Rows.regionRunsRow.recurses == Tryz.prog.recurses 4)) = true := by kernel_rfl
theorem rruns_j12 : ((Rows.regionRunsRow.named == Tryz.prog.varsNamed 4)) = true := by kernel_rfl
theorem rruns_j13 : ((Rows.regionRunsRow.maps == (Tryz.f4.params.toList ++ Rows.regionRunsSpec.plain.varTypes Tryz.prog).any (Tryz.prog.mapsRec ·))) = true := by kernel_rfl
theorem rruns_j14 : ((Rows.regionRunsRow.ifaces == (Tryz.f4.params.toList ++ Rows.regionRunsSpec.plain.varTypes Tryz.prog).any (Tryz.prog.ifacesRec ·))) = true := by kernel_rfl
theorem rruns_j15 : ((Rows.regionRunsRow.mapsOut == Tryz.prog.mapsAmong Tryz.f4.resultTypes.toList)) = true := by kernel_rfl
theorem rruns_j16 : ((Rows.regionRunsRow.loops == (Tryz.f4.params.toList ++ Rows.regionRunsSpec.plain.varTypes Tryz.prog).any (Tryz.prog.loopsFrom ·))) = true := by kernel_rfl
theorem rruns_j17 : ((Rows.regionRunsRow.wideKeys == (Tryz.f4.params.toList ++ Rows.regionRunsSpec.plain.varTypes Tryz.prog ++ Tryz.f4.resultTypes.toList).any (Tryz.prog.wideKeysFrom ·))) = true := by kernel_rfl
theorem rruns_j18 : (Rows.regionRunsSpec.vars.all (Tryz.prog.varReadable ·)) = true := by kernel_rfl
theorem rruns_j19 : (Tryz.f4.resultTypes.all (fun t => Tryz.prog.readableRec t && decide (t < Tryz.prog.types.size))) = true := by kernel_rfl
theorem rruns_j20 : ((Rows.regionRunsRow.ifacesOut == Tryz.f4.resultTypes.toList.any (Tryz.prog.ifacesRec ·))) = true := by kernel_rfl
theorem rruns_j21 : ((Rows.regionRunsRow.loopsOut == Tryz.f4.resultTypes.toList.any (Tryz.prog.loopsFrom ·))) = true := by kernel_rfl
theorem rruns_j22 : ((Rows.regionRunsRow.plainKeys == Tryz.prog.plainKeys)) = true := by kernel_rfl
theorem rruns_j23 : (Rows.regionRunsRow.shortTexts.isNone) = true := by kernel_rfl
theorem rruns_j24 : (Tryz.prog.stopsHeard) = true := by kernel_rfl
theorem rruns_j25 : (Tryz.prog.mayEnter) = true := by kernel_rfl
theorem rruns_j26 : ((Rows.regionRunsRow.lifted == Tryz.prog.liftsFinal)) = true := by kernel_rfl
theorem rruns_j27 : ((Tryz.prog.make == some Rows.regionRunsRow.make)) = true := by kernel_rfl
theorem rruns_j29 : ((Rows.regionRunsRow.pinned == Rows.regionRunsRow.pinnedBy)) = true := by kernel_rfl
theorem rruns_j30 : ((Rows.regionRunsRow.veiled == (Tryz.f4.params.toList ++ Rows.regionRunsSpec.plain.varTypes Tryz.prog ++ Tryz.f4.resultTypes.toList).any (Tryz.prog.veiledRec ·))) = true := by kernel_rfl
theorem rruns_j31 : (Rows.regionRunsRow.veiledFits Tryz.prog Tryz.f4.params.toList (Tryz.f4.params.toList ++ Rows.regionRunsSpec.plain.varTypes Tryz.prog ++ Tryz.f4.resultTypes.toList)) = true := by kernel_rfl
theorem rruns_and {a b : Bool} (h1 : a = true) (h2 : b = true) : (a && b) = true := by rw [h1, h2]; rfl
set_option maxRecDepth 100000 in
theorem rruns_joined : joinedFacts Tryz.prog 4 Tryz.f4 Rows.regionRunsSpec Rows.regionRunsRow = true := by
  unfold joinedFacts
  refine (rruns_and (rruns_and (rruns_and (rruns_and (rruns_and (rruns_and (rruns_and (rruns_and (rruns_and (rruns_and (rruns_and (rruns_and (rruns_and (rruns_and (rruns_and (rruns_and (rruns_and (rruns_and (rruns_and (rruns_and (rruns_and (rruns_and (rruns_and (rruns_and (rruns_and (rruns_and (rruns_and (rruns_and (rruns_and (rruns_and (rruns_and rruns_j0 rruns_j1) rruns_j2) rruns_j3) rruns_j4) rruns_j5) rruns_j6) rruns_j7) rruns_j8) rruns_j9) rruns_j10) rruns_j11) rruns_j12) rruns_j13) rruns_j14) rruns_j15) rruns_j16) rruns_j17) rruns_j18) rruns_j19) rruns_j20) rruns_j21) rruns_j22) rruns_j23) rruns_j24) rruns_j25) rruns_j26) rruns_j27) ?_) rruns_j29) rruns_j30) rruns_j31)
  as_aux_lemma => kernel_rfl
theorem regionRuns_row : Rows.RegionRunsSaid :=
  OpenClaim.holds_of_wide 4 Tryz.f4 rfl rfl rfl rfl rfl rfl rfl ⟨rfl, rfl, rfl, rfl, rfl⟩ rfl rfl rfl rfl rfl (by as_aux_lemma => kernel_rfl) Tryz.func4 rruns_joined
    (of_decide_eq_true (by as_aux_lemma => kernel_rfl)) (by as_aux_lemma => unfold Func.isWrapper; first | (rw [if_pos (by decide +kernel)]; kernel_rfl) | (rw [if_neg (by decide +kernel)]; exact ⟨rfl, rfl⟩))
    (fun os started H enc _ => lifted_rruns os started H enc)
theorem regionRuns_holds : Rows.RegionRunsCardSaid :=
  Claim7.holds_tied_plain_at .later [] [.data, .handle, .widerDeep, .data, .data, .data] true (true, "4cc1806c6cf9f354c6d5eb1ac53c5af01547e4b11168f715a2048ac83dd927f7") true
    regionRuns_row (fun _ h => by cases h) (by as_aux_lemma => kernel_rfl) (fun _ h => by cases h) regionRuns_row_tie rfl ⟨rfl, rfl⟩ (by as_aux_lemma => kernel_rfl) rfl
    (fun f fn hf hfn => by
      obtain rfl : f = 4 := Option.some.inj ((show Tryz.prog.funcNamed "columbarium/columbariumlaw16.RegionRuns" = some 4 by kernel_rfl).symm.trans hf) |>.symm
      obtain rfl : fn = Tryz.f4 := (Option.some.inj (Tryz.func4.symm.trans hfn)).symm
      exact ⟨by as_aux_lemma => kernel_rfl, fun j t ht => by
        rw [Tryz.params4] at ht
        have hm : t ∈ [54, 3, 3] := by simpa using Array.mem_of_getElem? ht
        have hall : ([54, 3, 3].all fun u => !Tryz.prog.wantsStandIn u) = true := by as_aux_lemma => kernel_rfl
        exact (show Tryz.prog.wantsStandIn t = false by simpa using List.all_eq_true.1 hall t hm)⟩)
    (by as_aux_lemma => kernel_rfl)
#print axioms regionRuns_holds
end Go.Proofs.YtmemoopkgjgmiaaGreatDoor
