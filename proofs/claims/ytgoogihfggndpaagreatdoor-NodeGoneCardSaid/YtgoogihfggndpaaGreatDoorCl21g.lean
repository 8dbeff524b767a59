/- NodeGone returns true at every input, and every argument reads as it did: the tied card; no condition. -/
import Derived.Test.YtgoogihfggndpaaGreatDoorRows
import Derived.Test.YtgoogihfggndpaaGreatDoorCards
import Derived.Test.YtgoogihfggndpaaGreatDoorTie
import Derived.Test.YtgoogihfggndpaaGreatDoorLaw21g
import Derived.Test.YtgoogihfggndpaaGreatDoorLaid15
import Derived.Test.YtgoogihfggndpaaGreatDoorOpenS
import Derived.WalkKit
import Derived.ProofKit
import Derived.LaidMore
import Derived.OpenShut
import Derived.Stop.Joined
import Derived.SevenTiedAt
import Derived.Lay
import Derived.ShutString
import Derived.ChangeOld
import Derived.Below
namespace Go.Proofs.YtgoogihfggndpaaGreatDoor
open Go.ChangeShapes Go.WideShapes Go.ChangeAt Go.RowKit
open Go.ChangeMaps (open_string shut_string)
set_option linter.unusedVariables false
set_option linter.unusedSimpArgs false

theorem ngone_out : laidOutB Tryz.prog = true := by kernel_rfl
theorem ngone_own : ownKnob Tryz.prog.godebug = none := by kernel_rfl
set_option maxRecDepth 100000 in
theorem lifted_ngone (os : Os) (started : os.Started) (H : Type) (enc : TypeId × Value → H) :
    ReturnsInHanded {} Tryz.checked os 7 .any (fun w args => (Rows.nodeGoneSpec.pre enc Tryz.prog Tryz.f7 Rows.nodeGoneRow.domain false w args ∧ laidMetH Tryz.prog laid5 w) ∧ sizedMet enc Tryz.prog Tryz.f7 (OpenSpec.ofChange Rows.nodeGoneSpec) false w args)
      (Rows.nodeGoneSpec.post enc Tryz.prog Tryz.f7 false true false false) := by
  refine returnsInHanded_of_change_and (C := Tryz.checked) (X := fun w _ => laidMetH Tryz.prog laid5 w) (fun _ _ _ hh h => h.of_heap hh) ngone_own started (by kernel_rfl) Tryz.func7
    (ChangeSpec.witness_shaped (enc := enc) (C := Tryz.checked) (os := os) (X := fun w _ => laidMetH Tryz.prog laid5 w) false (World.laidAll Tryz.prog os laid5) #[.slice none 0 0] 8 (World.laidAll_os _ _ _)
      (World.shaped_of_ZipB (by kernel_rfl) (by kernel_rfl)) (by kernel_rfl) (by kernel_rfl) (by kernel_rfl)
      (by rw [MakeChecks.laidMetH_plain _ _ _ (by kernel_rfl)]; exact laidMet_laidAll _ (by kernel_rfl) (by kernel_rfl))) ?_
  intro W base args ds gs before hval0 hW hcnd _ hL _
  have hval : ∀ (j : Nat) t v, Tryz.f7.params[j]? = some t → args[j]? = some v → Value.okWide Tryz.prog W .any base t v := hval0
  have hW' := hW
  obtain ⟨p, q, hA0, hV, rfl, hfz, hnd⟩ := hW
  have hA : DataW.TrodAll enc Tryz.prog W 0 (fun _ => true) true Tryz.f7.params.toList args.toList ds p := hA0
  rw [Tryz.params7] at hA hval
  obtain ⟨v0, vs0, d0, ds0, p0, q0, hargs, rfl, rfl, h0, r0⟩ := trodAll_cons hA
  obtain ⟨rfl, rfl, rfl⟩ := trodAll_nil r0
  obtain rfl : args = #[v0] := by cases args; simp_all
  obtain ⟨rfl, rfl⟩ := trodVars_none hV
  have k0 := h0
  have lt0 : ∀ x ∈ p0, x.block < W.heap.size := by obtain ⟨m, hm⟩ := k0; exact DataW.trod_lt m _ _ _ hm
  obtain ⟨a0, c0, l0, rfl, hb0⟩ := open_strs (hval 0 70 v0 rfl rfl) h0
  have hT := tabs5_of_laid hL
  clear hA0 hval0
  simp only [List.append_nil] at hW'
  refine (walk_ngoneW W hT a0 c0 l0 hb0).mono fun e W' ⟨he, hfr⟩ => ?_
  subst he
  have bel : Below W.heap.size W W' := hfr.below (Nat.le_refl _) (fun k hk => by simp at hk)
  exact ⟨_, rfl, _, _, _, [], _, [], hW', trodAll_mk1 (shut_bool Tryz.underlying4 _), (trodAll_cons_mk (Below.trod ngone_out (by kernel_rfl) (of_decide_eq_true (by kernel_rfl)) k0 bel lt0) trodAll_mk0), rfl, bel.frame _, fun h => by cases h⟩

theorem ngone_j0 : (Rows.nodeGoneRow.wf (OpenSpec.ofChange Rows.nodeGoneSpec)) = true := by kernel_rfl
theorem ngone_j1 : (laidOutB Tryz.prog) = true := by kernel_rfl
theorem ngone_j2 : (mapsRowed Tryz.prog) = true := by kernel_rfl
theorem ngone_j3 : (Tryz.f7.params.all (Tryz.prog.readableRec ·)) = true := by kernel_rfl
theorem ngone_j4 : (namedTie Tryz.prog Rows.nodeGoneRow.named Rows.nodeGoneSpec.vars) = true := by kernel_rfl
theorem ngone_j5 : ((Rows.nodeGoneRow.stops == [])) = true := by kernel_rfl
theorem ngone_j6 : ((Tryz.prog.stops == [])) = true := by kernel_rfl
theorem ngone_j7 : ((Rows.nodeGoneRow.knobs == [])) = true := by kernel_rfl
theorem ngone_j8 : ((Tryz.prog.stopKnobs == [])) = true := by kernel_rfl
theorem ngone_j9 : ((Rows.nodeGoneRow.inPlace == Tryz.prog.inPlace 7)) = true := by kernel_rfl
theorem ngone_j10 : ((Rows.nodeGoneRow.unfollowed == Tryz.prog.unfollowed 7)) = true := by kernel_rfl
theorem ngone_j11 : ((Rows.nodeGoneRow.recurses == Tryz.prog.recurses 7)) = true := by kernel_rfl
theorem ngone_j12 : ((Rows.nodeGoneRow.named == Tryz.prog.varsNamed 7)) = true := by kernel_rfl
theorem ngone_j13 : ((Rows.nodeGoneRow.maps == (Tryz.f7.params.toList ++ Rows.nodeGoneSpec.plain.varTypes Tryz.prog).any (Tryz.prog.mapsRec ·))) = true := by kernel_rfl
theorem ngone_j14 : ((Rows.nodeGoneRow.ifaces == (Tryz.f7.params.toList ++ Rows.nodeGoneSpec.plain.varTypes Tryz.prog).any (Tryz.prog.ifacesRec ·))) = true := by kernel_rfl
theorem ngone_j15 : ((Rows.nodeGoneRow.mapsOut == Tryz.prog.mapsAmong Tryz.f7.resultTypes.toList)) = true := by kernel_rfl
theorem ngone_j16 : ((Rows.nodeGoneRow.loops == (Tryz.f7.params.toList ++ Rows.nodeGoneSpec.plain.varTypes Tryz.prog).any (Tryz.prog.loopsFrom ·))) = true := by kernel_rfl
theorem ngone_j17 : ((Rows.nodeGoneRow.wideKeys == (Tryz.f7.params.toList ++ Rows.nodeGoneSpec.plain.varTypes Tryz.prog ++ Tryz.f7.resultTypes.toList).any (Tryz.prog.wideKeysFrom ·))) = true := by kernel_rfl
theorem ngone_j18 : (Rows.nodeGoneSpec.vars.all (Tryz.prog.varReadable ·)) = true := by kernel_rfl
theorem ngone_j19 : (Tryz.f7.resultTypes.all (fun t => Tryz.prog.readableRec t && decide (t < Tryz.prog.types.size))) = true := by kernel_rfl
theorem ngone_j20 : ((Rows.nodeGoneRow.ifacesOut == Tryz.f7.resultTypes.toList.any (Tryz.prog.ifacesRec ·))) = true := by kernel_rfl
theorem ngone_j21 : ((Rows.nodeGoneRow.loopsOut == Tryz.f7.resultTypes.toList.any (Tryz.prog.loopsFrom ·))) = true := by kernel_rfl
theorem ngone_j22 : ((Rows.nodeGoneRow.plainKeys == Tryz.prog.plainKeys)) = true := by kernel_rfl
theorem ngone_j23 : (Rows.nodeGoneRow.shortTexts.isNone) = true := by kernel_rfl
theorem ngone_j24 : (Tryz.prog.stopsHeard) = true := by kernel_rfl
theorem ngone_j25 : (Tryz.prog.mayEnter) = true := by kernel_rfl
theorem ngone_j26 : ((Rows.nodeGoneRow.lifted == Tryz.prog.liftsFinal)) = true := by kernel_rfl
theorem ngone_j27 : ((Tryz.prog.make == some Rows.nodeGoneRow.make)) = true := by kernel_rfl
theorem ngone_j29 : ((Rows.nodeGoneRow.pinned == Rows.nodeGoneRow.pinnedBy)) = true := by kernel_rfl
theorem ngone_j30 : ((Rows.nodeGoneRow.veiled == (Tryz.f7.params.toList ++ Rows.nodeGoneSpec.plain.varTypes Tryz.prog ++ Tryz.f7.resultTypes.toList).any (Tryz.prog.veiledRec ·))) = true := by kernel_rfl
theorem ngone_j31 : (Rows.nodeGoneRow.veiledFits Tryz.prog Tryz.f7.params.toList (Tryz.f7.params.toList ++ Rows.nodeGoneSpec.plain.varTypes Tryz.prog ++ Tryz.f7.resultTypes.toList)) = true := by kernel_rfl
theorem ngone_and {a b : Bool} (h1 : a = true) (h2 : b = true) : (a && b) = true := by rw [h1, h2]; rfl
set_option maxRecDepth 100000 in
theorem ngone_joined : joinedFacts Tryz.prog 7 Tryz.f7 Rows.nodeGoneSpec Rows.nodeGoneRow = true := by
  unfold joinedFacts
  refine (ngone_and (ngone_and (ngone_and (ngone_and (ngone_and (ngone_and (ngone_and (ngone_and (ngone_and (ngone_and (ngone_and (ngone_and (ngone_and (ngone_and (ngone_and (ngone_and (ngone_and (ngone_and (ngone_and (ngone_and (ngone_and (ngone_and (ngone_and (ngone_and (ngone_and (ngone_and (ngone_and (ngone_and (ngone_and (ngone_and (ngone_and ngone_j0 ngone_j1) ngone_j2) ngone_j3) ngone_j4) ngone_j5) ngone_j6) ngone_j7) ngone_j8) ngone_j9) ngone_j10) ngone_j11) ngone_j12) ngone_j13) ngone_j14) ngone_j15) ngone_j16) ngone_j17) ngone_j18) ngone_j19) ngone_j20) ngone_j21) ngone_j22) ngone_j23) ngone_j24) ngone_j25) ngone_j26) ngone_j27) ?_) ngone_j29) ngone_j30) ngone_j31)
  as_aux_lemma => kernel_rfl
theorem nodeGone_row : Rows.NodeGoneSaid :=
  OpenClaim.holds_of_wide 7 Tryz.f7 rfl rfl rfl rfl rfl rfl rfl ⟨rfl, rfl, rfl, rfl, rfl⟩ rfl rfl rfl rfl rfl (by as_aux_lemma => kernel_rfl) Tryz.func7 ngone_joined
    (of_decide_eq_true (by as_aux_lemma => kernel_rfl)) (by as_aux_lemma => unfold Func.isWrapper; first | (rw [if_pos (by decide +kernel)]; kernel_rfl) | (rw [if_neg (by decide +kernel)]; exact ⟨rfl, rfl⟩))
    (fun os started H enc _ => lifted_ngone os started H enc)
theorem nodeGone_holds : Rows.NodeGoneCardSaid :=
  Claim7.holds_tied_plain_at .later [] [.data, .widerDeep, .data, .data, .data] true (true, "ea47d34c1e88e5ed126b4f3d9daca0c8d633c4013c587786a1b61c56f864ab8b") true
    nodeGone_row (fun _ h => by cases h) (by as_aux_lemma => kernel_rfl) (fun _ h => by cases h) nodeGone_row_tie rfl ⟨rfl, rfl⟩ (by as_aux_lemma => kernel_rfl) rfl
    (fun f fn hf hfn => by
      obtain rfl : f = 7 := Option.some.inj ((show Tryz.prog.funcNamed "columbarium/columbariumlaw21.NodeGone" = some 7 by kernel_rfl).symm.trans hf) |>.symm
      obtain rfl : fn = Tryz.f7 := (Option.some.inj (Tryz.func7.symm.trans hfn)).symm
      exact ⟨by as_aux_lemma => kernel_rfl, fun j t ht => by
        rw [Tryz.params7] at ht
        have hm : t ∈ [70] := by simpa using Array.mem_of_getElem? ht
        have hall : ([70].all fun u => !Tryz.prog.wantsStandIn u) = true := by as_aux_lemma => kernel_rfl
        exact (show Tryz.prog.wantsStandIn t = false by simpa using List.all_eq_true.1 hall t hm)⟩)
    (by as_aux_lemma => kernel_rfl)
#print axioms nodeGone_holds
end Go.Proofs.YtgoogihfggndpaaGreatDoor
