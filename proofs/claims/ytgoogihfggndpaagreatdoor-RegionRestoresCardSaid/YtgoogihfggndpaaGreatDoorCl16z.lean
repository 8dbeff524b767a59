/- RegionRestores returns true at every input, and every argument reads as it did: the tied card; no condition. -/
import Derived.Test.YtgoogihfggndpaaGreatDoorRows
import Derived.Test.YtgoogihfggndpaaGreatDoorCards
import Derived.Test.YtgoogihfggndpaaGreatDoorTie
import Derived.Test.YtgoogihfggndpaaGreatDoorLaw16z
import Derived.Test.YtgoogihfggndpaaGreatDoorZl2
import Derived.Test.YtgoogihfggndpaaGreatDoorLaidE
import Derived.Test.YtgoogihfggndpaaGreatDoorOpenC
import Derived.WalkKit
import Derived.ProofKit
import Derived.LaidMore
import Derived.OpenShut
import Derived.Stop.Joined
import Derived.SevenTiedAt
import Derived.Lay
import Derived.ShutString
import Derived.ChangeOld
import Derived.Below
namespace Go.Proofs.YtgoogihfggndpaaGreatDoor
open Go.ChangeShapes Go.WideShapes Go.ChangeAt Go.RowKit
open Go.ChangeMaps (open_string shut_string)
set_option linter.unusedVariables false
set_option linter.unusedSimpArgs false

theorem rrest_out : laidOutB Tryz.prog = true := by kernel_rfl
theorem rrest_own : ownKnob Tryz.prog.godebug = none := by kernel_rfl
set_option maxRecDepth 100000 in
theorem lifted_rrest (os : Os) (started : os.Started) (H : Type) (enc : TypeId × Value → H) :
    ReturnsInHanded {} Tryz.checked os 3 .any (fun w args => (Rows.regionRestoresSpec.pre enc Tryz.prog Tryz.f3 Rows.regionRestoresRow.domain false w args ∧ laidMetH Tryz.prog laidE w) ∧ sizedMet enc Tryz.prog Tryz.f3 (OpenSpec.ofChange Rows.regionRestoresSpec) false w args)
      (Rows.regionRestoresSpec.post enc Tryz.prog Tryz.f3 false true false false) := by
  refine returnsInHanded_of_change_and (C := Tryz.checked) (X := fun w _ => laidMetH Tryz.prog laidE w) (fun _ _ _ hh h => h.of_heap hh) rrest_own started (by kernel_rfl) Tryz.func3
    (ChangeSpec.witness_shaped (enc := enc) (C := Tryz.checked) (os := os) (X := fun w _ => laidMetH Tryz.prog laidE w) false (laidWE os) #[.agg #[.int .i64 0, .int .i64 0], .slice none 0 0] 8 (laidWE_os os)
      (World.shaped_of_ZipB (by kernel_rfl) (by kernel_rfl)) (by kernel_rfl) (by kernel_rfl) (by kernel_rfl)
      (laidWE_met os _)) ?_
  intro W base args ds gs before hval0 hW hcnd _ hL _
  have hval : ∀ (j : Nat) t v, Tryz.f3.params[j]? = some t → args[j]? = some v → Value.okWide Tryz.prog W .any base t v := hval0
  have hW' := hW
  obtain ⟨p, q, hA0, hV, rfl, hfz, hnd⟩ := hW
  have hA : DataW.TrodAll enc Tryz.prog W 0 (fun _ => true) true Tryz.f3.params.toList args.toList ds p := hA0
  rw [Tryz.params3] at hA hval
  obtain ⟨v0, vs0, d0, ds0, p0, q0, hargs, rfl, rfl, h0, r0⟩ := trodAll_cons hA
  obtain ⟨v1, vs1, d1, ds1, p1, q1, rfl, rfl, rfl, h1, r1⟩ := trodAll_cons r0
  obtain ⟨rfl, rfl, rfl⟩ := trodAll_nil r1
  obtain rfl : args = #[v0, v1] := by cases args; simp_all
  obtain ⟨rfl, rfl⟩ := trodVars_none hV
  have k0 := h0
  have lt0 : ∀ x ∈ p0, x.block < W.heap.size := by obtain ⟨m, hm⟩ := k0; exact DataW.trod_lt m _ _ _ hm
  obtain ⟨x0, y0, rfl⟩ := open_cfg (hval 0 23 v0 rfl rfl) h0
  have k1 := h1
  have lt1 : ∀ x ∈ p1, x.block < W.heap.size := by obtain ⟨m, hm⟩ := k1; exact DataW.trod_lt m _ _ _ hm
  obtain ⟨a1, c1, l1, rfl, hb1⟩ := open_bytes (hval 1 24 v1 rfl rfl) h1
  have hT := tabsErr_of_laid hL
  clear hA0 hval0
  simp only [List.append_nil] at hW'
  refine (walk_rrestW W hT x0 y0 a1 c1 l1 hb1).mono fun e W' ⟨he, hfr⟩ => ?_
  subst he
  have bel : Below W.heap.size W W' := hfr.below (Nat.le_refl _) (fun k hk => by simp at hk)
  exact ⟨_, rfl, _, _, _, [], _, [], hW', trodAll_mk1 (shut_bool Tryz.underlying4 _), (trodAll_cons_mk (Below.trod rrest_out (by kernel_rfl) (of_decide_eq_true (by kernel_rfl)) k0 bel lt0) (trodAll_cons_mk (Below.trod rrest_out (by kernel_rfl) (of_decide_eq_true (by kernel_rfl)) k1 bel lt1) trodAll_mk0)), rfl, bel.frame _, fun h => by cases h⟩

theorem rrest_j0 : (Rows.regionRestoresRow.wf (OpenSpec.ofChange Rows.regionRestoresSpec)) = true := by kernel_rfl
theorem rrest_j1 : (laidOutB Tryz.prog) = true := by kernel_rfl
theorem rrest_j2 : (mapsRowed Tryz.prog) = true := by kernel_rfl
theorem rrest_j3 : (Tryz.f3.params.all (Tryz.prog.readableRec ·)) = true := by kernel_rfl
theorem rrest_j4 : (namedTie Tryz.prog Rows.regionRestoresRow.named Rows.regionRestoresSpec.vars) = true := by kernel_rfl
theorem rrest_j5 : ((Rows.regionRestoresRow.stops == [])) = true := by kernel_rfl
theorem rrest_j6 : ((Tryz.prog.stops == [])) = true := by kernel_rfl
theorem rrest_j7 : ((Rows.regionRestoresRow.knobs == [])) = true := by kernel_rfl
theorem rrest_j8 : ((Tryz.prog.stopKnobs == [])) = true := by kernel_rfl
theorem rrest_j9 : ((Rows.regionRestoresRow.inPlace == Tryz.prog.inPlace 3)) = true := by kernel_rfl
theorem rrest_j10 : ((Rows.regionRestoresRow.unfollowed == Tryz.prog.unfollowed 3)) = true := by kernel_rfl
theorem rrest_j11 : ((Rows.regionRestoresRow.recurses == Tryz.prog.recurses 3)) = true := by kernel_rfl
theorem rrest_j12 : ((Rows.regionRestoresRow.named == Tryz.prog.varsNamed 3)) = true := by kernel_rfl
theorem rrest_j13 : ((Rows.regionRestoresRow.maps == (Tryz.f3.params.toList ++ Rows.regionRestoresSpec.plain.varTypes Tryz.prog).any (Tryz.prog.mapsRec ·))) = true := by kernel_rfl
theorem rrest_j14 : ((Rows.regionRestoresRow.ifaces == (Tryz.f3.params.toList ++ Rows.regionRestoresSpec.plain.varTypes Tryz.prog).any (Tryz.prog.ifacesRec ·))) = true := by kernel_rfl
theorem rrest_j15 : ((Rows.regionRestoresRow.mapsOut == Tryz.prog.mapsAmong Tryz.f3.resultTypes.toList)) = true := by kernel_rfl
theorem rrest_j16 : ((Rows.regionRestoresRow.loops == (Tryz.f3.params.toList ++ Rows.regionRestoresSpec.plain.varTypes Tryz.prog).any (Tryz.prog.loopsFrom ·))) = true := by kernel_rfl
theorem rrest_j17 : ((Rows.regionRestoresRow.wideKeys == (Tryz.f3.params.toList ++ Rows.regionRestoresSpec.plain.varTypes Tryz.prog ++ Tryz.f3.resultTypes.toList).any (Tryz.prog.wideKeysFrom ·))) = true := by kernel_rfl
theorem rrest_j18 : (Rows.regionRestoresSpec.vars.all (Tryz.prog.varReadable ·)) = true := by kernel_rfl
theorem rrest_j19 : (Tryz.f3.resultTypes.all (fun t => Tryz.prog.readableRec t && decide (t < Tryz.prog.types.size))) = true := by kernel_rfl
theorem rrest_j20 : ((Rows.regionRestoresRow.ifacesOut == Tryz.f3.resultTypes.toList.any (Tryz.prog.ifacesRec ·))) = true := by kernel_rfl
theorem rrest_j21 : ((Rows.regionRestoresRow.loopsOut == Tryz.f3.resultTypes.toList.any (Tryz.prog.loopsFrom ·))) = true := by kernel_rfl
theorem rrest_j22 : ((Rows.regionRestoresRow.plainKeys == Tryz.prog.plainKeys)) = true := by kernel_rfl
theorem rrest_j23 : (Rows.regionRestoresRow.shortTexts.isNone) = true := by kernel_rfl
theorem rrest_j24 : (Tryz.prog.stopsHeard) = true := by kernel_rfl
theorem rrest_j25 : (Tryz.prog.mayEnter) = true := by kernel_rfl
theorem rrest_j26 : ((Rows.regionRestoresRow.lifted == Tryz.prog.liftsFinal)) = true := by kernel_rfl
theorem rrest_j27 : ((Tryz.prog.make == some Rows.regionRestoresRow.make)) = true := by kernel_rfl
theorem rrest_j29 : ((Rows.regionRestoresRow.pinned == Rows.regionRestoresRow.pinnedBy)) = true := by kernel_rfl
theorem rrest_j30 : ((Rows.regionRestoresRow.veiled == (Tryz.f3.params.toList ++ Rows.regionRestoresSpec.plain.varTypes Tryz.prog ++ Tryz.f3.resultTypes.toList).any (Tryz.prog.veiledRec ·))) = true := by kernel_rfl
theorem rrest_j31 : (Rows.regionRestoresRow.veiledFits Tryz.prog Tryz.f3.params.toList (Tryz.f3.params.toList ++ Rows.regionRestoresSpec.plain.varTypes Tryz.prog ++ Tryz.f3.resultTypes.toList)) = true := by kernel_rfl
theorem rrest_and {a b : Bool} (h1 : a = true) (h2 : b = true) : (a && b) = true := by rw [h1, h2]; rfl
set_option maxRecDepth 100000 in
theorem rrest_joined : joinedFacts Tryz.prog 3 Tryz.f3 Rows.regionRestoresSpec Rows.regionRestoresRow = true := by
  unfold joinedFacts
  refine (rrest_and (rrest_and (rrest_and (rrest_and (rrest_and (rrest_and (rrest_and (rrest_and (rrest_and (rrest_and (rrest_and (rrest_and (rrest_and (rrest_and (rrest_and (rrest_and (rrest_and (rrest_and (rrest_and (rrest_and (rrest_and (rrest_and (rrest_and (rrest_and (rrest_and (rrest_and (rrest_and (rrest_and (rrest_and (rrest_and (rrest_and rrest_j0 rrest_j1) rrest_j2) rrest_j3) rrest_j4) rrest_j5) rrest_j6) rrest_j7) rrest_j8) rrest_j9) rrest_j10) rrest_j11) rrest_j12) rrest_j13) rrest_j14) rrest_j15) rrest_j16) rrest_j17) rrest_j18) rrest_j19) rrest_j20) rrest_j21) rrest_j22) rrest_j23) rrest_j24) rrest_j25) rrest_j26) rrest_j27) ?_) rrest_j29) rrest_j30) rrest_j31)
  as_aux_lemma => kernel_rfl
theorem regionRestores_row : Rows.RegionRestoresSaid :=
  OpenClaim.holds_of_wide 3 Tryz.f3 rfl rfl rfl rfl rfl rfl rfl ⟨rfl, rfl, rfl, rfl, rfl⟩ rfl rfl rfl rfl rfl (by as_aux_lemma => kernel_rfl) Tryz.func3 rrest_joined
    (of_decide_eq_true (by as_aux_lemma => kernel_rfl)) (by as_aux_lemma => unfold Func.isWrapper; first | (rw [if_pos (by decide +kernel)]; kernel_rfl) | (rw [if_neg (by decide +kernel)]; exact ⟨rfl, rfl⟩))
    (fun os started H enc _ => lifted_rrest os started H enc)
theorem regionRestores_holds : Rows.RegionRestoresCardSaid :=
  Claim7.holds_tied_plain_at .later [] [.data, .handle, .widerDeep, .data, .data, .data] true (true, "ea47d34c1e88e5ed126b4f3d9daca0c8d633c4013c587786a1b61c56f864ab8b") true
    regionRestores_row (fun _ h => by cases h) (by as_aux_lemma => kernel_rfl) (fun _ h => by cases h) regionRestores_row_tie rfl ⟨rfl, rfl⟩ (by as_aux_lemma => kernel_rfl) rfl
    (fun f fn hf hfn => by
      obtain rfl : f = 3 := Option.some.inj ((show Tryz.prog.funcNamed "columbarium/columbariumlaw16.RegionRestores" = some 3 by kernel_rfl).symm.trans hf) |>.symm
      obtain rfl : fn = Tryz.f3 := (Option.some.inj (Tryz.func3.symm.trans hfn)).symm
      exact ⟨by as_aux_lemma => kernel_rfl, fun j t ht => by
        rw [Tryz.params3] at ht
        have hm : t ∈ [23, 24] := by simpa using Array.mem_of_getElem? ht
        have hall : ([23, 24].all fun u => !Tryz.prog.wantsStandIn u) = true := by as_aux_lemma => kernel_rfl
        exact (show Tryz.prog.wantsStandIn t = false by simpa using List.all_eq_true.1 hall t hm)⟩)
    (by as_aux_lemma => kernel_rfl)
#print axioms regionRestores_holds
end Go.Proofs.YtgoogihfggndpaaGreatDoor
