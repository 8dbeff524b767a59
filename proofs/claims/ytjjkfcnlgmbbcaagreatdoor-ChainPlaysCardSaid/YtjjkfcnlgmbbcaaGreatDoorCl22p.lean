/- ChainPlays returns true at every input, and every argument reads as it did: the tied card; no condition. -/
import Derived.Test.YtjjkfcnlgmbbcaaGreatDoorRows
import Derived.Test.YtjjkfcnlgmbbcaaGreatDoorCards
import Derived.Test.YtjjkfcnlgmbbcaaGreatDoorTie
import Derived.Test.YtjjkfcnlgmbbcaaGreatDoorLaw22r
import Derived.Test.YtjjkfcnlgmbbcaaGreatDoorLaid15
import Derived.Test.YtjjkfcnlgmbbcaaGreatDoorMO
import Derived.WalkKit
import Derived.ProofKit
import Derived.LaidMore
import Derived.OpenShut
import Derived.Stop.Joined
import Derived.SevenTiedAt
import Derived.Lay
import Derived.ShutString
import Derived.ChangeOld
import Derived.Below
namespace Go.Proofs.YtjjkfcnlgmbbcaaGreatDoor
open Go.ChangeShapes Go.WideShapes Go.ChangeAt Go.RowKit
open Go.ChangeMaps (open_string shut_string)
set_option linter.unusedVariables false
set_option linter.unusedSimpArgs false
theorem Fr.below {S : List Nat} {w w' : World} {B : Nat} (h : Fr S w w') (hB : B ≤ w.heap.size) (hs : ∀ k ∈ S, B ≤ k) : Below B w w' :=
  ⟨h.os, h.tape, h.output, h.size, fun k hk => h.block k (by omega) (fun hm => by have := hs k hm; omega)⟩
theorem cplays_out : laidOutB Tryz.prog = true := by kernel_rfl
theorem cplays_own : ownKnob Tryz.prog.godebug = none := by kernel_rfl
set_option maxRecDepth 100000 in
theorem lifted_cplays (os : Os) (started : os.Started) (H : Type) (enc : TypeId × Value → H) :
    ReturnsInHanded {} Tryz.checked os 3 .any (fun w args => (Rows.chainPlaysSpec.pre enc Tryz.prog Tryz.f3 Rows.chainPlaysRow.domain false w args ∧ laidMetH Tryz.prog laid5 w) ∧ sizedMet enc Tryz.prog Tryz.f3 (OpenSpec.ofChange Rows.chainPlaysSpec) false w args)
      (Rows.chainPlaysSpec.post enc Tryz.prog Tryz.f3 false true false false) := by
  refine returnsInHanded_of_change_and (C := Tryz.checked) (X := fun w _ => laidMetH Tryz.prog laid5 w) (fun _ _ _ hh h => h.of_heap hh) cplays_own started (by kernel_rfl) Tryz.func3
    (ChangeSpec.witness_shaped (enc := enc) (C := Tryz.checked) (os := os) (X := fun w _ => laidMetH Tryz.prog laid5 w) false (World.laidAll Tryz.prog os laid5) #[.slice none 0 0] 8 (World.laidAll_os _ _ _)
      (World.shaped_of_ZipB (by kernel_rfl) (by kernel_rfl)) (by kernel_rfl) (by kernel_rfl) (by kernel_rfl)
      (by rw [MakeChecks.laidMetH_plain _ _ _ (by kernel_rfl)]; exact laidMet_laidAll _ (by kernel_rfl) (by kernel_rfl))) ?_
  intro W base args ds gs before hval0 hW hcnd _ hL _
  have hval : ∀ (j : Nat) t v, Tryz.f3.params[j]? = some t → args[j]? = some v → Value.okWide Tryz.prog W .any base t v := hval0
  have hW' := hW
  obtain ⟨p, q, hA0, hV, rfl, hfz, hnd⟩ := hW
  have hA : DataW.TrodAll enc Tryz.prog W 0 (fun _ => true) true Tryz.f3.params.toList args.toList ds p := hA0
  rw [Tryz.params3] at hA hval
  obtain ⟨v0, vs0, d0, ds0, p0, q0, hargs, rfl, rfl, h0, r0⟩ := trodAll_cons hA
  obtain ⟨rfl, rfl, rfl⟩ := trodAll_nil r0
  obtain rfl : args = #[v0] := by cases args; simp_all
  obtain ⟨rfl, rfl⟩ := trodVars_none hV
  have k0 := h0
  have lt0 : ∀ x ∈ p0, x.block < W.heap.size := by obtain ⟨m, hm⟩ := k0; exact DataW.trod_lt m _ _ _ hm
  obtain ⟨a0, c0, l0, rfl, hb0⟩ := open_acts22 (hval 0 22 v0 rfl rfl) h0
  have hT := tabs5_of_laid hL
  clear hA0 hval0
  simp only [List.append_nil] at hW'
  refine (walk_cplaysW W hT a0 c0 l0 hb0).mono fun e W' ⟨he, hfr⟩ => ?_
  subst he
  have bel : Below W.heap.size W W' := hfr.below (Nat.le_refl _) (fun k hk => by simp at hk)
  exact ⟨_, rfl, _, _, _, [], _, [], hW', trodAll_mk1 (shut_bool Tryz.underlying4 _), (trodAll_cons_mk (Below.trod cplays_out (by kernel_rfl) (of_decide_eq_true (by kernel_rfl)) k0 bel lt0) trodAll_mk0), rfl, bel.frame _, fun h => by cases h⟩
theorem cplays_j0 : (Rows.chainPlaysRow.wf (OpenSpec.ofChange Rows.chainPlaysSpec)) = true := by kernel_rfl
theorem cplays_j1 : (laidOutB Tryz.prog) = true := by kernel_rfl
theorem cplays_j2 : (mapsRowed Tryz.prog) = true := by kernel_rfl
theorem cplays_j3 : (Tryz.f3.params.all (Tryz.prog.readableRec ·)) = true := by kernel_rfl
theorem cplays_j4 : (namedTie Tryz.prog Rows.chainPlaysRow.named Rows.chainPlaysSpec.vars) = true := by kernel_rfl
theorem cplays_j5 : ((Rows.chainPlaysRow.stops == [])) = true := by kernel_rfl
theorem cplays_j6 : ((Tryz.prog.stops == [])) = true := by kernel_rfl
theorem cplays_j7 : ((Rows.chainPlaysRow.knobs == [])) = true := by kernel_rfl
theorem cplays_j8 : ((Tryz.prog.stopKnobs == [])) = true := by kernel_rfl
theorem cplays_j9 : ((Rows.chainPlaysRow.inPlace == Tryz.prog.inPlace 3)) = true := by kernel_rfl
theorem cplays_j10 : ((Rows.chainPlaysRow.unfollowed == Tryz.prog.unfollowed 3)) = true := by kernel_rfl
theorem cplays_j11 : ((Rows.chainPlaysRow.recurses == Tryz.prog.recurses 3)) = true := by kernel_rfl
theorem cplays_j12 : ((Rows.chainPlaysRow.named == Tryz.prog.varsNamed 3)) = true := by kernel_rfl
theorem cplays_j13 : ((Rows.chainPlaysRow.maps == (Tryz.f3.params.toList ++ Rows.chainPlaysSpec.plain.varTypes Tryz.prog).any (Tryz.prog.mapsRec ·))) = true := by kernel_rfl
theorem cplays_j14 : ((Rows.chainPlaysRow.ifaces == (Tryz.f3.params.toList ++ Rows.chainPlaysSpec.plain.varTypes Tryz.prog).any (Tryz.prog.ifacesRec ·))) = true := by kernel_rfl
theorem cplays_j15 : ((Rows.chainPlaysRow.mapsOut == Tryz.prog.mapsAmong Tryz.f3.resultTypes.toList)) = true := by kernel_rfl
theorem cplays_j16 : ((Rows.chainPlaysRow.loops == (Tryz.f3.params.toList ++ Rows.chainPlaysSpec.plain.varTypes Tryz.prog).any (Tryz.prog.loopsFrom ·))) = true := by kernel_rfl
theorem cplays_j17 : ((Rows.chainPlaysRow.wideKeys == (Tryz.f3.params.toList ++ Rows.chainPlaysSpec.plain.varTypes Tryz.prog ++ Tryz.f3.resultTypes.toList).any (Tryz.prog.wideKeysFrom ·))) = true := by kernel_rfl
theorem cplays_j18 : (Rows.chainPlaysSpec.vars.all (Tryz.prog.varReadable ·)) = true := by kernel_rfl
theorem cplays_j19 : (Tryz.f3.resultTypes.all (fun t => Tryz.prog.readableRec t && decide (t < Tryz.prog.types.size))) = true := by kernel_rfl
theorem cplays_j20 : ((Rows.chainPlaysRow.ifacesOut == Tryz.f3.resultTypes.toList.any (Tryz.prog.ifacesRec ·))) = true := by kernel_rfl
theorem cplays_j21 : ((Rows.chainPlaysRow.loopsOut == Tryz.f3.resultTypes.toList.any (Tryz.prog.loopsFrom ·))) = true := by kernel_rfl
theorem cplays_j22 : ((Rows.chainPlaysRow.plainKeys == Tryz.prog.plainKeys)) = true := by kernel_rfl
theorem cplays_j23 : (Rows.chainPlaysRow.shortTexts.isNone) = true := by kernel_rfl
theorem cplays_j24 : (Tryz.prog.stopsHeard) = true := by kernel_rfl
theorem cplays_j25 : (Tryz.prog.mayEnter) = true := by kernel_rfl
theorem cplays_j26 : ((Rows.chainPlaysRow.lifted == Tryz.prog.liftsFinal)) = true := by kernel_rfl
theorem cplays_j27 : ((Tryz.prog.make == some Rows.chainPlaysRow.make)) = true := by kernel_rfl
theorem cplays_j29 : ((Rows.chainPlaysRow.pinned == Rows.chainPlaysRow.pinnedBy)) = true := by kernel_rfl
theorem cplays_j30 : ((Rows.chainPlaysRow.veiled == (Tryz.f3.params.toList ++ Rows.chainPlaysSpec.plain.varTypes Tryz.prog ++ Tryz.f3.resultTypes.toList).any (Tryz.prog.veiledRec ·))) = true := by kernel_rfl
theorem cplays_j31 : (Rows.chainPlaysRow.veiledFits Tryz.prog Tryz.f3.params.toList (Tryz.f3.params.toList ++ Rows.chainPlaysSpec.plain.varTypes Tryz.prog ++ Tryz.f3.resultTypes.toList)) = true := by kernel_rfl
theorem cplays_and {a b : Bool} (h1 : a = true) (h2 : b = true) : (a && b) = true := by rw [h1, h2]; rfl
set_option maxRecDepth 100000 in
theorem cplays_joined : joinedFacts Tryz.prog 3 Tryz.f3 Rows.chainPlaysSpec Rows.chainPlaysRow = true := by
  unfold joinedFacts
  refine (cplays_and (cplays_and (cplays_and (cplays_and (cplays_and (cplays_and (cplays_and (cplays_and (cplays_and (cplays_and (cplays_and (cplays_and (cplays_and (cplays_and (cplays_and (cplays_and (cplays_and (cplays_and (cplays_and (cplays_and (cplays_and (cplays_and (cplays_and (cplays_and (cplays_and (cplays_and (cplays_and (cplays_and (cplays_and (cplays_and (cplays_and cplays_j0 cplays_j1) cplays_j2) cplays_j3) cplays_j4) cplays_j5) cplays_j6) cplays_j7) cplays_j8) cplays_j9) cplays_j10) cplays_j11) cplays_j12) cplays_j13) cplays_j14) cplays_j15) cplays_j16) cplays_j17) cplays_j18) cplays_j19) cplays_j20) cplays_j21) cplays_j22) cplays_j23) cplays_j24) cplays_j25) cplays_j26) cplays_j27) ?_) cplays_j29) cplays_j30) cplays_j31)
  as_aux_lemma => kernel_rfl
theorem chainPlays_row : Rows.ChainPlaysSaid :=
  OpenClaim.holds_of_wide 3 Tryz.f3 rfl rfl rfl rfl rfl rfl rfl ⟨rfl, rfl, rfl, rfl, rfl⟩ rfl rfl rfl rfl rfl (by as_aux_lemma => kernel_rfl) Tryz.func3 cplays_joined
    (of_decide_eq_true (by as_aux_lemma => kernel_rfl)) (by as_aux_lemma => unfold Func.isWrapper; first | (rw [if_pos (by decide +kernel)]; kernel_rfl) | (rw [if_neg (by decide +kernel)]; exact ⟨rfl, rfl⟩))
    (fun os started H enc _ => lifted_cplays os started H enc)
theorem chainPlays_holds : Rows.ChainPlaysCardSaid :=
  Claim7.holds_tied_plain_at .later [] [.data, .widerDeep, .data, .data, .data] true (true, "f1eaf6fddfd2293e91d4af8629d552182af320a2442a03e57e4af289ac83a4cc") true
    chainPlays_row (fun _ h => by cases h) (by as_aux_lemma => kernel_rfl) (fun _ h => by cases h) chainPlays_row_tie rfl ⟨rfl, rfl⟩ (by as_aux_lemma => kernel_rfl) rfl
    (fun f fn hf hfn => by
      obtain rfl : f = 3 := Option.some.inj ((show Tryz.prog.funcNamed "columbarium/columbariumlaw22.ChainPlays" = some 3 by kernel_rfl).symm.trans hf) |>.symm
      obtain rfl : fn = Tryz.f3 := (Option.some.inj (Tryz.func3.symm.trans hfn)).symm
      exact ⟨by as_aux_lemma => kernel_rfl, fun j t ht => by
        rw [Tryz.params3] at ht
        have hm : t ∈ [22] := by simpa using Array.mem_of_getElem? ht
        have hall : ([22].all fun u => !Tryz.prog.wantsStandIn u) = true := by as_aux_lemma => kernel_rfl
        exact (show Tryz.prog.wantsStandIn t = false by simpa using List.all_eq_true.1 hall t hm)⟩)
    (by as_aux_lemma => kernel_rfl)
#print axioms chainPlays_holds
end Go.Proofs.YtjjkfcnlgmbbcaaGreatDoor
