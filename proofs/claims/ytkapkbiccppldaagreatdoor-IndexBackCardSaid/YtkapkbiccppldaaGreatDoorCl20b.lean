/- IndexBack returns true at every input, and every argument reads as it did: the tied card; no condition. -/
import Derived.Test.YtkapkbiccppldaaGreatDoorRows
import Derived.Test.YtkapkbiccppldaaGreatDoorCards
import Derived.Test.YtkapkbiccppldaaGreatDoorTie
import Derived.Test.YtkapkbiccppldaaGreatDoorLaw20b
import Derived.Test.YtkapkbiccppldaaGreatDoorLaid15
import Derived.Test.YtkapkbiccppldaaGreatDoorKH
import Derived.WalkKit
import Derived.ProofKit
import Derived.LaidMore
import Derived.OpenShut
import Derived.Stop.Joined
import Derived.SevenTiedAt
import Derived.Lay
import Derived.ShutString
import Derived.ChangeOld
import Derived.Below
namespace Go.Proofs.YtkapkbiccppldaaGreatDoor
open Go.ChangeShapes Go.WideShapes Go.ChangeAt Go.RowKit
open Go.ChangeMaps (open_string shut_string)
set_option linter.unusedVariables false
set_option linter.unusedSimpArgs false

theorem iback_out : laidOutB Tryz.prog = true := by kernel_rfl
theorem iback_own : ownKnob Tryz.prog.godebug = none := by kernel_rfl
set_option maxRecDepth 100000 in
theorem lifted_iback (os : Os) (started : os.Started) (H : Type) (enc : TypeId × Value → H) :
    ReturnsInHanded {} Tryz.checked os 9 .any (fun w args => (Rows.indexBackSpec.pre enc Tryz.prog Tryz.f9 Rows.indexBackRow.domain false w args ∧ laidMetH Tryz.prog laid5 w) ∧ sizedMet enc Tryz.prog Tryz.f9 (OpenSpec.ofChange Rows.indexBackSpec) false w args)
      (Rows.indexBackSpec.post enc Tryz.prog Tryz.f9 false true false false) := by
  refine returnsInHanded_of_change_and (C := Tryz.checked) (X := fun w _ => laidMetH Tryz.prog laid5 w) (fun _ _ _ hh h => h.of_heap hh) iback_own started (by kernel_rfl) Tryz.func9
    (ChangeSpec.witness_shaped (enc := enc) (C := Tryz.checked) (os := os) (X := fun w _ => laidMetH Tryz.prog laid5 w) false (World.laidAll Tryz.prog os laid5) #[.slice none 0 0, .agg #[.int .i64 0, .bool false, .int .u32 0, .int .u16 0, .string ⟨#[]⟩, .int .u32 0]] 8 (World.laidAll_os _ _ _)
      (World.shaped_of_ZipB (by kernel_rfl) (by kernel_rfl)) (by kernel_rfl) (by kernel_rfl) (by kernel_rfl)
      (by rw [MakeChecks.laidMetH_plain _ _ _ (by kernel_rfl)]; exact laidMet_laidAll _ (by kernel_rfl) (by kernel_rfl))) ?_
  intro W base args ds gs before hval0 hW hcnd _ hL _
  have hval : ∀ (j : Nat) t v, Tryz.f9.params[j]? = some t → args[j]? = some v → Value.okWide Tryz.prog W .any base t v := hval0
  have hW' := hW
  obtain ⟨p, q, hA0, hV, rfl, hfz, hnd⟩ := hW
  have hA : DataW.TrodAll enc Tryz.prog W 0 (fun _ => true) true Tryz.f9.params.toList args.toList ds p := hA0
  rw [Tryz.params9] at hA hval
  obtain ⟨v0, vs0, d0, ds0, p0, q0, hargs, rfl, rfl, h0, r0⟩ := trodAll_cons hA
  obtain ⟨v1, vs1, d1, ds1, p1, q1, rfl, rfl, rfl, h1, r1⟩ := trodAll_cons r0
  obtain ⟨rfl, rfl, rfl⟩ := trodAll_nil r1
  obtain rfl : args = #[v0, v1] := by cases args; simp_all
  obtain ⟨rfl, rfl⟩ := trodVars_none hV
  have k0 := h0
  have lt0 : ∀ x ∈ p0, x.block < W.heap.size := by obtain ⟨m, hm⟩ := k0; exact DataW.trod_lt m _ _ _ hm
  obtain ⟨a0, c0, l0, rfl, hb0⟩ := open_acts20 (hval 0 73 v0 rfl rfl) h0
  have k1 := h1
  have lt1 : ∀ x ∈ p1, x.block < W.heap.size := by obtain ⟨m, hm⟩ := k1; exact DataW.trod_lt m _ _ _ hm
  obtain ⟨x1, rfl, hx1⟩ := open_rb (hval 1 77 v1 rfl rfl) h1
  have hT := tabs5_of_laid hL
  clear hA0 hval0
  simp only [List.append_nil] at hW'
  refine (walk_ibackW W hT a0 c0 l0 hb0 x1 hx1).mono fun e W' ⟨he, hfr⟩ => ?_
  subst he
  have bel : Below W.heap.size W W' := hfr.below (Nat.le_refl _) (fun k hk => by simp at hk)
  exact ⟨_, rfl, _, _, _, [], _, [], hW', trodAll_mk1 (shut_bool Tryz.underlying4 _), (trodAll_cons_mk (Below.trod iback_out (by kernel_rfl) (of_decide_eq_true (by kernel_rfl)) k0 bel lt0) (trodAll_cons_mk (Below.trod iback_out (by kernel_rfl) (of_decide_eq_true (by kernel_rfl)) k1 bel lt1) trodAll_mk0)), rfl, bel.frame _, fun h => by cases h⟩

theorem iback_j0 : (Rows.indexBackRow.wf (OpenSpec.ofChange Rows.indexBackSpec)) = true := by kernel_rfl
theorem iback_j1 : (laidOutB Tryz.prog) = true := by kernel_rfl
theorem iback_j2 : (mapsRowed Tryz.prog) = true := by kernel_rfl
theorem iback_j3 : (Tryz.f9.params.all (Tryz.prog.readableRec ·)) = true := by kernel_rfl
theorem iback_j4 : (namedTie Tryz.prog Rows.indexBackRow.named Rows.indexBackSpec.vars) = true := by kernel_rfl
theorem iback_j5 : ((Rows.indexBackRow.stops == [])) = true := by kernel_rfl
theorem iback_j6 : ((Tryz.prog.stops == [])) = true := by kernel_rfl
theorem iback_j7 : ((Rows.indexBackRow.knobs == [])) = true := by kernel_rfl
theorem iback_j8 : ((Tryz.prog.stopKnobs == [])) = true := by kernel_rfl
theorem iback_j9 : ((Rows.indexBackRow.inPlace == Tryz.prog.inPlace 9)) = true := by kernel_rfl
theorem iback_j10 : ((Rows.indexBackRow.unfollowed == Tryz.prog.unfollowed 9)) = true := by kernel_rfl
theorem iback_j11 : ((Rows.indexBackRow.recurses == Tryz.prog.recurses 9)) = true := by kernel_rfl
theorem iback_j12 : ((Rows.indexBackRow.named == Tryz.prog.varsNamed 9)) = true := by kernel_rfl
theorem iback_j13 : ((Rows.indexBackRow.maps == (Tryz.f9.params.toList ++ Rows.indexBackSpec.plain.varTypes Tryz.prog).any (Tryz.prog.mapsRec ·))) = true := by kernel_rfl
theorem iback_j14 : ((Rows.indexBackRow.ifaces == (Tryz.f9.params.toList ++ Rows.indexBackSpec.plain.varTypes Tryz.prog).any (Tryz.prog.ifacesRec ·))) = true := by kernel_rfl
theorem iback_j15 : ((Rows.indexBackRow.mapsOut == Tryz.prog.mapsAmong Tryz.f9.resultTypes.toList)) = true := by kernel_rfl
theorem iback_j16 : ((Rows.indexBackRow.loops == (Tryz.f9.params.toList ++ Rows.indexBackSpec.plain.varTypes Tryz.prog).any (Tryz.prog.loopsFrom ·))) = true := by kernel_rfl
theorem iback_j17 : ((Rows.indexBackRow.wideKeys == (Tryz.f9.params.toList ++ Rows.indexBackSpec.plain.varTypes Tryz.prog ++ Tryz.f9.resultTypes.toList).any (Tryz.prog.wideKeysFrom ·))) = true := by kernel_rfl
theorem iback_j18 : (Rows.indexBackSpec.vars.all (Tryz.prog.varReadable ·)) = true := by kernel_rfl
theorem iback_j19 : (Tryz.f9.resultTypes.all (fun t => Tryz.prog.readableRec t && decide (t < Tryz.prog.types.size))) = true := by kernel_rfl
theorem iback_j20 : ((Rows.indexBackRow.ifacesOut == Tryz.f9.resultTypes.toList.any (Tryz.prog.ifacesRec ·))) = true := by kernel_rfl
theorem iback_j21 : ((Rows.indexBackRow.loopsOut == Tryz.f9.resultTypes.toList.any (Tryz.prog.loopsFrom ·))) = true := by kernel_rfl
theorem iback_j22 : ((Rows.indexBackRow.plainKeys == Tryz.prog.plainKeys)) = true := by kernel_rfl
theorem iback_j23 : (Rows.indexBackRow.shortTexts.isNone) = true := by kernel_rfl
theorem iback_j24 : (Tryz.prog.stopsHeard) = true := by kernel_rfl
theorem iback_j25 : (Tryz.prog.mayEnter) = true := by kernel_rfl
theorem iback_j26 : ((Rows.indexBackRow.lifted == Tryz.prog.liftsFinal)) = true := by kernel_rfl
theorem iback_j27 : ((Tryz.prog.make == some Rows.indexBackRow.make)) = true := by kernel_rfl
theorem iback_j29 : ((Rows.indexBackRow.pinned == Rows.indexBackRow.pinnedBy)) = true := by kernel_rfl
theorem iback_j30 : ((Rows.indexBackRow.veiled == (Tryz.f9.params.toList ++ Rows.indexBackSpec.plain.varTypes Tryz.prog ++ Tryz.f9.resultTypes.toList).any (Tryz.prog.veiledRec ·))) = true := by kernel_rfl
theorem iback_j31 : (Rows.indexBackRow.veiledFits Tryz.prog Tryz.f9.params.toList (Tryz.f9.params.toList ++ Rows.indexBackSpec.plain.varTypes Tryz.prog ++ Tryz.f9.resultTypes.toList)) = true := by kernel_rfl
theorem iback_and {a b : Bool} (h1 : a = true) (h2 : b = true) : (a && b) = true := by rw [h1, h2]; rfl
set_option maxRecDepth 100000 in
theorem iback_joined : joinedFacts Tryz.prog 9 Tryz.f9 Rows.indexBackSpec Rows.indexBackRow = true := by
  unfold joinedFacts
  refine (iback_and (iback_and (iback_and (iback_and (iback_and (iback_and (iback_and (iback_and (iback_and (iback_and (iback_and (iback_and (iback_and (iback_and (iback_and (iback_and (iback_and (iback_and (iback_and (iback_and (iback_and (iback_and (iback_and (iback_and (iback_and (iback_and (iback_and (iback_and (iback_and (iback_and (iback_and iback_j0 iback_j1) iback_j2) iback_j3) iback_j4) iback_j5) iback_j6) iback_j7) iback_j8) iback_j9) iback_j10) iback_j11) iback_j12) iback_j13) iback_j14) iback_j15) iback_j16) iback_j17) iback_j18) iback_j19) iback_j20) iback_j21) iback_j22) iback_j23) iback_j24) iback_j25) iback_j26) iback_j27) ?_) iback_j29) iback_j30) iback_j31)
  as_aux_lemma => kernel_rfl
theorem indexBack_row : Rows.IndexBackSaid :=
  OpenClaim.holds_of_wide 9 Tryz.f9 rfl rfl rfl rfl rfl rfl rfl ⟨rfl, rfl, rfl, rfl, rfl⟩ rfl rfl rfl rfl rfl (by as_aux_lemma => kernel_rfl) Tryz.func9 iback_joined
    (of_decide_eq_true (by as_aux_lemma => kernel_rfl)) (by as_aux_lemma => unfold Func.isWrapper; first | (rw [if_pos (by decide +kernel)]; kernel_rfl) | (rw [if_neg (by decide +kernel)]; exact ⟨rfl, rfl⟩))
    (fun os started H enc _ => lifted_iback os started H enc)
theorem indexBack_holds : Rows.IndexBackCardSaid :=
  Claim7.holds_tied_plain_at .later [] [.data, .widerDeep, .data, .data, .data] true (true, "0ccafe196cc1747ee087a7eadb183d06cce4d5f351445ab3427afae79d1f992a") false
    indexBack_row (fun _ h => by cases h) (by as_aux_lemma => kernel_rfl) (fun _ h => by cases h) indexBack_row_tie rfl ⟨rfl, rfl⟩ (by as_aux_lemma => kernel_rfl) rfl
    (fun f fn hf hfn => by
      obtain rfl : f = 9 := Option.some.inj ((show Tryz.prog.funcNamed "columbarium/columbariumlaw20.IndexBack" = some 9 by kernel_rfl).symm.trans hf) |>.symm
      obtain rfl : fn = Tryz.f9 := (Option.some.inj (Tryz.func9.symm.trans hfn)).symm
      exact ⟨by as_aux_lemma => kernel_rfl, fun j t ht => by
        rw [Tryz.params9] at ht
        have hm : t ∈ [73, 77] := by simpa using Array.mem_of_getElem? ht
        have hall : ([73, 77].all fun u => !Tryz.prog.wantsStandIn u) = true := by as_aux_lemma => kernel_rfl
        exact (show Tryz.prog.wantsStandIn t = false by simpa using List.all_eq_true.1 hall t hm)⟩)
    (by as_aux_lemma => kernel_rfl)
#print axioms indexBack_holds
end Go.Proofs.YtkapkbiccppldaaGreatDoor
