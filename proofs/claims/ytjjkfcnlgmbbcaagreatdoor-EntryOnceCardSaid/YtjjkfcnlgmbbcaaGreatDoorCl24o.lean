/- EntryOnce returns true at every input, and every argument reads as it did: the tied card; no condition. -/
import Derived.Test.YtjjkfcnlgmbbcaaGreatDoorRows
import Derived.Test.YtjjkfcnlgmbbcaaGreatDoorCards
import Derived.Test.YtjjkfcnlgmbbcaaGreatDoorTie
import Derived.Test.YtjjkfcnlgmbbcaaGreatDoorLaw24o
import Derived.Test.YtjjkfcnlgmbbcaaGreatDoorLaid15
import Derived.Test.YtjjkfcnlgmbbcaaGreatDoorEF
import Derived.WalkKit
import Derived.ProofKit
import Derived.LaidMore
import Derived.OpenShut
import Derived.Stop.Joined
import Derived.SevenTiedAt
import Derived.Lay
import Derived.ShutString
import Derived.ChangeOld
import Derived.Below
namespace Go.Proofs.YtjjkfcnlgmbbcaaGreatDoor
open Go.ChangeShapes Go.WideShapes Go.ChangeAt Go.RowKit
open Go.ChangeMaps (open_string shut_string)
set_option linter.unusedVariables false
set_option linter.unusedSimpArgs false
theorem eonce_out : laidOutB Tryz.prog = true := by kernel_rfl
theorem eonce_own : ownKnob Tryz.prog.godebug = none := by kernel_rfl
set_option maxRecDepth 100000 in
theorem lifted_eonce (os : Os) (started : os.Started) (H : Type) (enc : TypeId × Value → H) :
    ReturnsInHanded {} Tryz.checked os 4 .any (fun w args => (Rows.entryOnceSpec.pre enc Tryz.prog Tryz.f4 Rows.entryOnceRow.domain false w args ∧ laidMetH Tryz.prog laid5 w) ∧ sizedMet enc Tryz.prog Tryz.f4 (OpenSpec.ofChange Rows.entryOnceSpec) false w args)
      (Rows.entryOnceSpec.post enc Tryz.prog Tryz.f4 false true false false) := by
  refine returnsInHanded_of_change_and (C := Tryz.checked) (X := fun w _ => laidMetH Tryz.prog laid5 w) (fun _ _ _ hh h => h.of_heap hh) eonce_own started (by kernel_rfl) Tryz.func4
    (ChangeSpec.witness_shaped (enc := enc) (C := Tryz.checked) (os := os) (X := fun w _ => laidMetH Tryz.prog laid5 w) false (World.laidAll Tryz.prog os laid5) #[.slice none 0 0] 8 (World.laidAll_os _ _ _)
      (World.shaped_of_ZipB (by kernel_rfl) (by kernel_rfl)) (by kernel_rfl) (by kernel_rfl) (by kernel_rfl)
      (by rw [MakeChecks.laidMetH_plain _ _ _ (by kernel_rfl)]; exact laidMet_laidAll _ (by kernel_rfl) (by kernel_rfl))) ?_
  intro W base args ds gs before hval0 hW hcnd _ hL _
  have hval : ∀ (j : Nat) t v, Tryz.f4.params[j]? = some t → args[j]? = some v → Value.okWide Tryz.prog W .any base t v := hval0
  have hW' := hW
  obtain ⟨p, q, hA0, hV, rfl, hfz, hnd⟩ := hW
  have hA : DataW.TrodAll enc Tryz.prog W 0 (fun _ => true) true Tryz.f4.params.toList args.toList ds p := hA0
  rw [Tryz.params4] at hA hval
  obtain ⟨v0, vs0, d0, ds0, p0, q0, hargs, rfl, rfl, h0, r0⟩ := trodAll_cons hA
  obtain ⟨rfl, rfl, rfl⟩ := trodAll_nil r0
  obtain rfl : args = #[v0] := by cases args; simp_all
  obtain ⟨rfl, rfl⟩ := trodVars_none hV
  have k0 := h0
  have lt0 : ∀ x ∈ p0, x.block < W.heap.size := by obtain ⟨m, hm⟩ := k0; exact DataW.trod_lt m _ _ _ hm
  obtain ⟨a0, c0, l0, rfl, hb0⟩ := open_acts24 (hval 0 51 v0 rfl rfl) h0
  have hT := tabs5_of_laid hL
  clear hA0 hval0
  simp only [List.append_nil] at hW'
  refine (walk_eonceW W hT a0 c0 l0 hb0).mono fun e W' ⟨he, hfr⟩ => ?_
  subst he
  have bel : Below W.heap.size W W' := hfr.below (Nat.le_refl _) (fun k hk => by simp at hk)
  exact ⟨_, rfl, _, _, _, [], _, [], hW', trodAll_mk1 (shut_bool Tryz.underlying4 _), (trodAll_cons_mk (Below.trod eonce_out (by kernel_rfl) (of_decide_eq_true (by kernel_rfl)) k0 bel lt0) trodAll_mk0), rfl, bel.frame _, fun h => by cases h⟩
theorem eonce_j0 : (Rows.entryOnceRow.wf (OpenSpec.ofChange Rows.entryOnceSpec)) = true := by kernel_rfl
theorem eonce_j1 : (laidOutB Tryz.prog) = true := by kernel_rfl
theorem eonce_j2 : (mapsRowed Tryz.prog) = true := by kernel_rfl
theorem eonce_j3 : (Tryz.f4.params.all (Tryz.prog.readableRec ·)) = true := by kernel_rfl
theorem eonce_j4 : (namedTie Tryz.prog Rows.entryOnceRow.named Rows.entryOnceSpec.vars) = true := by kernel_rfl
theorem eonce_j5 : ((Rows.entryOnceRow.stops == [])) = true := by kernel_rfl
theorem eonce_j6 : ((Tryz.prog.stops == [])) = true := by kernel_rfl
theorem eonce_j7 : ((Rows.entryOnceRow.knobs == [])) = true := by kernel_rfl
theorem eonce_j8 : ((Tryz.prog.stopKnobs == [])) = true := by kernel_rfl
theorem eonce_j9 : ((Rows.entryOnceRow.inPlace == Tryz.prog.inPlace 4)) = true := by kernel_rfl
theorem eonce_j10 : ((Rows.entryOnceRow.unfollowed == Tryz.prog.unfollowed 4)) = true := by kernel_rfl
theorem eonce_j11 : ((Rows.entryOnceRow.recurses == Tryz.prog.recurses 4)) = true := by kernel_rfl
theorem eonce_j12 : ((Rows.entryOnceRow.named == Tryz.prog.varsNamed 4)) = true := by kernel_rfl
theorem eonce_j13 : ((Rows.entryOnceRow.maps == (Tryz.f4.params.toList ++ Rows.entryOnceSpec.plain.varTypes Tryz.prog).any (Tryz.prog.mapsRec ·))) = true := by kernel_rfl
theorem eonce_j14 : ((Rows.entryOnceRow.ifaces == (Tryz.f4.params.toList ++ Rows.entryOnceSpec.plain.varTypes Tryz.prog).any (Tryz.prog.ifacesRec ·))) = true := by kernel_rfl
theorem eonce_j15 : ((Rows.entryOnceRow.mapsOut == Tryz.prog.mapsAmong Tryz.f4.resultTypes.toList)) = true := by kernel_rfl
theorem eonce_j16 : ((Rows.entryOnceRow.loops == (Tryz.f4.params.toList ++ Rows.entryOnceSpec.plain.varTypes Tryz.prog).any (Tryz.prog.loopsFrom ·))) = true := by kernel_rfl
theorem eonce_j17 : ((Rows.entryOnceRow.wideKeys == (Tryz.f4.params.toList ++ Rows.entryOnceSpec.plain.varTypes Tryz.prog ++ Tryz.f4.resultTypes.toList).any (Tryz.prog.wideKeysFrom ·))) = true := by kernel_rfl
theorem eonce_j18 : (Rows.entryOnceSpec.vars.all (Tryz.prog.varReadable ·)) = true := by kernel_rfl
theorem eonce_j19 : (Tryz.f4.resultTypes.all (fun t => Tryz.prog.readableRec t && decide (t < Tryz.prog.types.size))) = true := by kernel_rfl
theorem eonce_j20 : ((Rows.entryOnceRow.ifacesOut == Tryz.f4.resultTypes.toList.any (Tryz.prog.ifacesRec ·))) = true := by kernel_rfl
theorem eonce_j21 : ((Rows.entryOnceRow.loopsOut == Tryz.f4.resultTypes.toList.any (Tryz.prog.loopsFrom ·))) = true := by kernel_rfl
theorem eonce_j22 : ((Rows.entryOnceRow.plainKeys == Tryz.prog.plainKeys)) = true := by kernel_rfl
theorem eonce_j23 : (Rows.entryOnceRow.shortTexts.isNone) = true := by kernel_rfl
theorem eonce_j24 : (Tryz.prog.stopsHeard) = true := by kernel_rfl
theorem eonce_j25 : (Tryz.prog.mayEnter) = true := by kernel_rfl
theorem eonce_j26 : ((Rows.entryOnceRow.lifted == Tryz.prog.liftsFinal)) = true := by kernel_rfl
theorem eonce_j27 : ((Tryz.prog.make == some Rows.entryOnceRow.make)) = true := by kernel_rfl
theorem eonce_j29 : ((Rows.entryOnceRow.pinned == Rows.entryOnceRow.pinnedBy)) = true := by kernel_rfl
theorem eonce_j30 : ((Rows.entryOnceRow.veiled == (Tryz.f4.params.toList ++ Rows.entryOnceSpec.plain.varTypes Tryz.prog ++ Tryz.f4.resultTypes.toList).any (Tryz.prog.veiledRec ·))) = true := by kernel_rfl
theorem eonce_j31 : (Rows.entryOnceRow.veiledFits Tryz.prog Tryz.f4.params.toList (Tryz.f4.params.toList ++ Rows.entryOnceSpec.plain.varTypes Tryz.prog ++ Tryz.f4.resultTypes.toList)) = true := by kernel_rfl
theorem eonce_and {a b : Bool} (h1 : a = true) (h2 : b = true) : (a && b) = true := by rw [h1, h2]; rfl
set_option maxRecDepth 100000 in
theorem eonce_joined : joinedFacts Tryz.prog 4 Tryz.f4 Rows.entryOnceSpec Rows.entryOnceRow = true := by
  unfold joinedFacts
  refine (eonce_and (eonce_and (eonce_and (eonce_and (eonce_and (eonce_and (eonce_and (eonce_and (eonce_and (eonce_and (eonce_and (eonce_and (eonce_and (eonce_and (eonce_and (eonce_and (eonce_and (eonce_and (eonce_and (eonce_and (eonce_and (eonce_and (eonce_and (eonce_and (eonce_and (eonce_and (eonce_and (eonce_and (eonce_and (eonce_and (eonce_and eonce_j0 eonce_j1) eonce_j2) eonce_j3) eonce_j4) eonce_j5) eonce_j6) eonce_j7) eonce_j8) eonce_j9) eonce_j10) eonce_j11) eonce_j12) eonce_j13) eonce_j14) eonce_j15) eonce_j16) eonce_j17) eonce_j18) eonce_j19) eonce_j20) eonce_j21) eonce_j22) eonce_j23) eonce_j24) eonce_j25) eonce_j26) eonce_j27) ?_) eonce_j29) eonce_j30) eonce_j31)
  as_aux_lemma => kernel_rfl
theorem entryOnce_row : Rows.EntryOnceSaid :=
  OpenClaim.holds_of_wide 4 Tryz.f4 rfl rfl rfl rfl rfl rfl rfl ⟨rfl, rfl, rfl, rfl, rfl⟩ rfl rfl rfl rfl rfl (by as_aux_lemma => kernel_rfl) Tryz.func4 eonce_joined
    (of_decide_eq_true (by as_aux_lemma => kernel_rfl)) (by as_aux_lemma => unfold Func.isWrapper; first | (rw [if_pos (by decide +kernel)]; kernel_rfl) | (rw [if_neg (by decide +kernel)]; exact ⟨rfl, rfl⟩))
    (fun os started H enc _ => lifted_eonce os started H enc)
theorem entryOnce_holds : Rows.EntryOnceCardSaid :=
  Claim7.holds_tied_plain_at .later [] [.data, .widerDeep, .data, .data, .data] true (true, "f1eaf6fddfd2293e91d4af8629d552182af320a2442a03e57e4af289ac83a4cc") true
    entryOnce_row (fun _ h => by cases h) (by as_aux_lemma => kernel_rfl) (fun _ h => by cases h) entryOnce_row_tie rfl ⟨rfl, rfl⟩ (by as_aux_lemma => kernel_rfl) rfl
    (fun f fn hf hfn => by
      obtain rfl : f = 4 := Option.some.inj ((show Tryz.prog.funcNamed "columbarium/columbariumlaw24.EntryOnce" = some 4 by kernel_rfl).symm.trans hf) |>.symm
      obtain rfl : fn = Tryz.f4 := (Option.some.inj (Tryz.func4.symm.trans hfn)).symm
      exact ⟨by as_aux_lemma => kernel_rfl, fun j t ht => by
        rw [Tryz.params4] at ht
        have hm : t ∈ [51] := by simpa using Array.mem_of_getElem? ht
        have hall : ([51].all fun u => !Tryz.prog.wantsStandIn u) = true := by as_aux_lemma => kernel_rfl
        exact (show Tryz.prog.wantsStandIn t = false by simpa using List.all_eq_true.1 hall t hm)⟩)
    (by as_aux_lemma => kernel_rfl)
#print axioms entryOnce_holds
end Go.Proofs.YtjjkfcnlgmbbcaaGreatDoor
