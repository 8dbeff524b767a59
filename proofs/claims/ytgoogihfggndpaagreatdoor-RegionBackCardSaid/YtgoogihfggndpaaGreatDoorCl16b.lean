/- RegionBack returns true at every input, and every argument reads as it did: the tied card; no condition. -/
import Derived.Test.YtgoogihfggndpaaGreatDoorRows
import Derived.Test.YtgoogihfggndpaaGreatDoorCards
import Derived.Test.YtgoogihfggndpaaGreatDoorTie
import Derived.Test.YtgoogihfggndpaaGreatDoorLaw16b
import Derived.Test.YtgoogihfggndpaaGreatDoorLaidE
import Derived.Test.YtgoogihfggndpaaGreatDoorLC
import Derived.WalkKit
import Derived.ProofKit
import Derived.LaidMore
import Derived.OpenShut
import Derived.Stop.Joined
import Derived.SevenTiedAt
import Derived.Lay
import Derived.ShutString
import Derived.ChangeOld
import Derived.Below
namespace Go.Proofs.YtgoogihfggndpaaGreatDoor
open Go.ChangeShapes Go.WideShapes Go.ChangeAt Go.RowKit
open Go.ChangeMaps (open_string shut_string)
set_option linter.unusedVariables false
set_option linter.unusedSimpArgs false

theorem rback_out : laidOutB Tryz.prog = true := by kernel_rfl
theorem rback_own : ownKnob Tryz.prog.godebug = none := by kernel_rfl
set_option maxRecDepth 100000 in
theorem lifted_rback (os : Os) (started : os.Started) (H : Type) (enc : TypeId × Value → H) :
    ReturnsInHanded {} Tryz.checked os 4 .any (fun w args => (Rows.regionBackSpec.pre enc Tryz.prog Tryz.f4 Rows.regionBackRow.domain false w args ∧ laidMetH Tryz.prog laidE w) ∧ sizedMet enc Tryz.prog Tryz.f4 (OpenSpec.ofChange Rows.regionBackSpec) false w args)
      (Rows.regionBackSpec.post enc Tryz.prog Tryz.f4 false true false false) := by
  refine returnsInHanded_of_change_and (C := Tryz.checked) (X := fun w _ => laidMetH Tryz.prog laidE w) (fun _ _ _ hh h => h.of_heap hh) rback_own started (by kernel_rfl) Tryz.func4
    (ChangeSpec.witness_shaped (enc := enc) (C := Tryz.checked) (os := os) (X := fun w _ => laidMetH Tryz.prog laidE w) false (laidWE os) #[.slice none 0 0, .slice none 0 0] 8 (laidWE_os os)
      (World.shaped_of_ZipB (by kernel_rfl) (by kernel_rfl)) (by kernel_rfl) (by kernel_rfl) (by kernel_rfl)
      (laidWE_met os _)) ?_
  intro W base args ds gs before hval0 hW hcnd _ hL _
  have hval : ∀ (j : Nat) t v, Tryz.f4.params[j]? = some t → args[j]? = some v → Value.okWide Tryz.prog W .any base t v := hval0
  have hW' := hW
  obtain ⟨p, q, hA0, hV, rfl, hfz, hnd⟩ := hW
  have hA : DataW.TrodAll enc Tryz.prog W 0 (fun _ => true) true Tryz.f4.params.toList args.toList ds p := hA0
  rw [Tryz.params4] at hA hval
  obtain ⟨v0, vs0, d0, ds0, p0, q0, hargs, rfl, rfl, h0, r0⟩ := trodAll_cons hA
  obtain ⟨v1, vs1, d1, ds1, p1, q1, rfl, rfl, rfl, h1, r1⟩ := trodAll_cons r0
  obtain ⟨rfl, rfl, rfl⟩ := trodAll_nil r1
  obtain rfl : args = #[v0, v1] := by cases args; simp_all
  obtain ⟨rfl, rfl⟩ := trodVars_none hV
  have k0 := h0
  have lt0 : ∀ x ∈ p0, x.block < W.heap.size := by obtain ⟨m, hm⟩ := k0; exact DataW.trod_lt m _ _ _ hm
  obtain ⟨a0, c0, l0, rfl, hb0⟩ := open_acts16 (hval 0 44 v0 rfl rfl) h0
  have k1 := h1
  have lt1 : ∀ x ∈ p1, x.block < W.heap.size := by obtain ⟨m, hm⟩ := k1; exact DataW.trod_lt m _ _ _ hm
  obtain ⟨a1, c1, l1, rfl, hb1⟩ := open_acts16 (hval 1 44 v1 rfl rfl) h1
  have hT := tabsE_of_laid hL
  clear hA0 hval0
  simp only [List.append_nil] at hW'
  refine (walk_rbackW W hT a0 c0 l0 hb0 a1 c1 l1 hb1).mono fun e W' ⟨he, hfr⟩ => ?_
  subst he
  have bel : Below W.heap.size W W' := hfr.below (Nat.le_refl _) (fun k hk => by simp at hk)
  exact ⟨_, rfl, _, _, _, [], _, [], hW', trodAll_mk1 (shut_bool Tryz.underlying4 _), (trodAll_cons_mk (Below.trod rback_out (by kernel_rfl) (of_decide_eq_true (by kernel_rfl)) k0 bel lt0) (trodAll_cons_mk (Below.trod rback_out (by kernel_rfl) (of_decide_eq_true (by kernel_rfl)) k1 bel lt1) trodAll_mk0)), rfl, bel.frame _, fun h => by cases h⟩

theorem rback_j0 : (Rows.regionBackRow.wf (OpenSpec.ofChange Rows.regionBackSpec)) = true := by kernel_rfl
theorem rback_j1 : (laidOutB Tryz.prog) = true := by kernel_rfl
theorem rback_j2 : (mapsRowed Tryz.prog) = true := by kernel_rfl
theorem rback_j3 : (Tryz.f4.params.all (Tryz.prog.readableRec ·)) = true := by kernel_rfl
theorem rback_j4 : (namedTie Tryz.prog Rows.regionBackRow.named Rows.regionBackSpec.vars) = true := by kernel_rfl
theorem rback_j5 : ((Rows.regionBackRow.stops == [])) = true := by kernel_rfl
theorem rback_j6 : ((Tryz.prog.stops == [])) = true := by kernel_rfl
theorem rback_j7 : ((Rows.regionBackRow.knobs == [])) = true := by kernel_rfl
theorem rback_j8 : ((Tryz.prog.stopKnobs == [])) = true := by kernel_rfl
theorem rback_j9 : ((Rows.regionBackRow.inPlace == Tryz.prog.inPlace 4)) = true := by kernel_rfl
theorem rback_j10 : ((Rows.regionBackRow.unfollowed == Tryz.prog.unfollowed 4)) = true := by kernel_rfl
theorem rback_j11 : ((Rows.regionBackRow.recurses == Tryz.prog.recurses 4)) = true := by kernel_rfl
theorem rback_j12 : ((Rows.regionBackRow.named == Tryz.prog.varsNamed 4)) = true := by kernel_rfl
theorem rback_j13 : ((Rows.regionBackRow.maps == (Tryz.f4.params.toList ++ Rows.regionBackSpec.plain.varTypes Tryz.prog).any (Tryz.prog.mapsRec ·))) = true := by kernel_rfl
theorem rback_j14 : ((Rows.regionBackRow.ifaces == (Tryz.f4.params.toList ++ Rows.regionBackSpec.plain.varTypes Tryz.prog).any (Tryz.prog.ifacesRec ·))) = true := by kernel_rfl
theorem rback_j15 : ((Rows.regionBackRow.mapsOut == Tryz.prog.mapsAmong Tryz.f4.resultTypes.toList)) = true := by kernel_rfl
theorem rback_j16 : ((Rows.regionBackRow.loops == (Tryz.f4.params.toList ++ Rows.regionBackSpec.plain.varTypes Tryz.prog).any (Tryz.prog.loopsFrom ·))) = true := by kernel_rfl
theorem rback_j17 : ((Rows.regionBackRow.wideKeys == (Tryz.f4.params.toList ++ Rows.regionBackSpec.plain.varTypes Tryz.prog ++ Tryz.f4.resultTypes.toList).any (Tryz.prog.wideKeysFrom ·))) = true := by kernel_rfl
theorem rback_j18 : (Rows.regionBackSpec.vars.all (Tryz.prog.varReadable ·)) = true := by kernel_rfl
theorem rback_j19 : (Tryz.f4.resultTypes.all (fun t => Tryz.prog.readableRec t && decide (t < Tryz.prog.types.size))) = true := by kernel_rfl
theorem rback_j20 : ((Rows.regionBackRow.ifacesOut == Tryz.f4.resultTypes.toList.any (Tryz.prog.ifacesRec ·))) = true := by kernel_rfl
theorem rback_j21 : ((Rows.regionBackRow.loopsOut == Tryz.f4.resultTypes.toList.any (Tryz.prog.loopsFrom ·))) = true := by kernel_rfl
theorem rback_j22 : ((Rows.regionBackRow.plainKeys == Tryz.prog.plainKeys)) = true := by kernel_rfl
theorem rback_j23 : (Rows.regionBackRow.shortTexts.isNone) = true := by kernel_rfl
theorem rback_j24 : (Tryz.prog.stopsHeard) = true := by kernel_rfl
theorem rback_j25 : (Tryz.prog.mayEnter) = true := by kernel_rfl
theorem rback_j26 : ((Rows.regionBackRow.lifted == Tryz.prog.liftsFinal)) = true := by kernel_rfl
theorem rback_j27 : ((Tryz.prog.make == some Rows.regionBackRow.make)) = true := by kernel_rfl
theorem rback_j29 : ((Rows.regionBackRow.pinned == Rows.regionBackRow.pinnedBy)) = true := by kernel_rfl
theorem rback_j30 : ((Rows.regionBackRow.veiled == (Tryz.f4.params.toList ++ Rows.regionBackSpec.plain.varTypes Tryz.prog ++ Tryz.f4.resultTypes.toList).any (Tryz.prog.veiledRec ·))) = true := by kernel_rfl
theorem rback_j31 : (Rows.regionBackRow.veiledFits Tryz.prog Tryz.f4.params.toList (Tryz.f4.params.toList ++ Rows.regionBackSpec.plain.varTypes Tryz.prog ++ Tryz.f4.resultTypes.toList)) = true := by kernel_rfl
theorem rback_and {a b : Bool} (h1 : a = true) (h2 : b = true) : (a && b) = true := by rw [h1, h2]; rfl
set_option maxRecDepth 100000 in
theorem rback_joined : joinedFacts Tryz.prog 4 Tryz.f4 Rows.regionBackSpec Rows.regionBackRow = true := by
  unfold joinedFacts
  refine (rback_and (rback_and (rback_and (rback_and (rback_and (rback_and (rback_and (rback_and (rback_and (rback_and (rback_and (rback_and (rback_and (rback_and (rback_and (rback_and (rback_and (rback_and (rback_and (rback_and (rback_and (rback_and (rback_and (rback_and (rback_and (rback_and (rback_and (rback_and (rback_and (rback_and (rback_and rback_j0 rback_j1) rback_j2) rback_j3) rback_j4) rback_j5) rback_j6) rback_j7) rback_j8) rback_j9) rback_j10) rback_j11) rback_j12) rback_j13) rback_j14) rback_j15) rback_j16) rback_j17) rback_j18) rback_j19) rback_j20) rback_j21) rback_j22) rback_j23) rback_j24) rback_j25) rback_j26) rback_j27) ?_) rback_j29) rback_j30) rback_j31)
  as_aux_lemma => kernel_rfl
theorem regionBack_row : Rows.RegionBackSaid :=
  OpenClaim.holds_of_wide 4 Tryz.f4 rfl rfl rfl rfl rfl rfl rfl ⟨rfl, rfl, rfl, rfl, rfl⟩ rfl rfl rfl rfl rfl (by as_aux_lemma => kernel_rfl) Tryz.func4 rback_joined
    (of_decide_eq_true (by as_aux_lemma => kernel_rfl)) (by as_aux_lemma => unfold Func.isWrapper; first | (rw [if_pos (by decide +kernel)]; kernel_rfl) | (rw [if_neg (by decide +kernel)]; exact ⟨rfl, rfl⟩))
    (fun os started H enc _ => lifted_rback os started H enc)
theorem regionBack_holds : Rows.RegionBackCardSaid :=
  Claim7.holds_tied_plain_at .later [] [.data, .handle, .widerDeep, .data, .data, .data] true (true, "ea47d34c1e88e5ed126b4f3d9daca0c8d633c4013c587786a1b61c56f864ab8b") true
    regionBack_row (fun _ h => by cases h) (by as_aux_lemma => kernel_rfl) (fun _ h => by cases h) regionBack_row_tie rfl ⟨rfl, rfl⟩ (by as_aux_lemma => kernel_rfl) rfl
    (fun f fn hf hfn => by
      obtain rfl : f = 4 := Option.some.inj ((show Tryz.prog.funcNamed "columbarium/columbariumlaw16.RegionBack" = some 4 by kernel_rfl).symm.trans hf) |>.symm
      obtain rfl : fn = Tryz.f4 := (Option.some.inj (Tryz.func4.symm.trans hfn)).symm
      exact ⟨by as_aux_lemma => kernel_rfl, fun j t ht => by
        rw [Tryz.params4] at ht
        have hm : t ∈ [44, 44] := by simpa using Array.mem_of_getElem? ht
        have hall : ([44, 44].all fun u => !Tryz.prog.wantsStandIn u) = true := by as_aux_lemma => kernel_rfl
        exact (show Tryz.prog.wantsStandIn t = false by simpa using List.all_eq_true.1 hall t hm)⟩)
    (by as_aux_lemma => kernel_rfl)
#print axioms regionBack_holds
end Go.Proofs.YtgoogihfggndpaaGreatDoor
