/- EntryShares returns true at every input, and every argument reads as it did: the tied card; no condition. -/
import Derived.Test.YtolhkhdbgnciiaaGreatDoorCards
import Derived.Test.YtolhkhdbgnciiaaGreatDoorTie
import Derived.Test.YtolhkhdbgnciiaaGreatDoorLaw24s
import Derived.Test.YtolhkhdbgnciiaaGreatDoorLaid15
import Derived.LaidMore
namespace Go.Proofs.YtolhkhdbgnciiaaGreatDoor
open Go.ChangeShapes Go.WideShapes Go.ChangeAt Go.RowKit
open Go.ChangeMaps (open_string shut_string)
set_option linter.unusedVariables false
set_option linter.unusedSimpArgs false
theorem eshares_out : laidOutB Tryz.prog = true := by kernel_rfl
theorem eshares_own : ownKnob Tryz.prog.godebug = none := by kernel_rfl
set_option maxRecDepth 100000 in
theorem lifted_eshares (os : Os) (started : os.Started) (H : Type) (enc : TypeId × Value → H) :
    ReturnsInHanded {} Tryz.checked os 4 .any (fun w args => (Rows.entrySharesSpec.pre enc Tryz.prog Tryz.f4 Rows.entrySharesRow.domain false w args ∧ laidMetH Tryz.prog laid5 w) ∧ sizedMet enc Tryz.prog Tryz.f4 (OpenSpec.ofChange Rows.entrySharesSpec) false w args)
      (Rows.entrySharesSpec.post enc Tryz.prog Tryz.f4 false true false false) := by
  refine returnsInHanded_of_change_and (C := Tryz.checked) (X := fun w _ => laidMetH Tryz.prog laid5 w) (fun _ _ _ hh h => h.of_heap hh) eshares_own started (by kernel_rfl) Tryz.func4
    (ChangeSpec.witness_shaped (enc := enc) (C := Tryz.checked) (os := os) (X := fun w _ => laidMetH Tryz.prog laid5 w) false (World.laidAll Tryz.prog os laid5) #[.slice none 0 0, .int .i64 0, .int .i64 0] 8 (World.laidAll_os _ _ _)
      (World.shaped_of_ZipB (by kernel_rfl) (by kernel_rfl)) (by kernel_rfl) (by kernel_rfl) (by kernel_rfl)
      (by rw [MakeChecks.laidMetH_plain _ _ _ (by kernel_rfl)]; exact laidMet_laidAll _ (by kernel_rfl) (by kernel_rfl))) ?_
  intro W base args ds gs before hval0 hW hcnd _ hL _
  have hval : ∀ (j : Nat) t v, Tryz.f4.params[j]? = some t → args[j]? = some v → Value.okWide Tryz.prog W .any base t v := hval0
  have hW' := hW
  obtain ⟨p, q, hA0, hV, rfl, hfz, hnd⟩ := hW
  have hA : DataW.TrodAll enc Tryz.prog W 0 (fun _ => true) true Tryz.f4.params.toList args.toList ds p := hA0
  rw [Tryz.params4] at hA hval
  obtain ⟨v0, vs0, d0, ds0, p0, q0, hargs, rfl, rfl, h0, r0⟩ := trodAll_cons hA
  obtain ⟨v1, vs1, d1, ds1, p1, q1, rfl, rfl, rfl, h1, r1⟩ := trodAll_cons r0
  obtain ⟨v2, vs2, d2, ds2, p2, q2, rfl, rfl, rfl, h2, r2⟩ := trodAll_cons r1
  obtain ⟨rfl, rfl, rfl⟩ := trodAll_nil r2
  obtain rfl : args = #[v0, v1, v2] := by cases args; simp_all
  obtain ⟨rfl, rfl⟩ := trodVars_none hV
  have k0 := h0
  have lt0 : ∀ x ∈ p0, x.block < W.heap.size := by obtain ⟨m, hm⟩ := k0; exact DataW.trod_lt m _ _ _ hm
  obtain ⟨a0, c0, l0, rfl, hb0⟩ := open_recs (hval 0 34 v0 rfl rfl) h0
  obtain ⟨a1, rfl, rfl, rfl, w1⟩ := open_int Tryz.underlying3 (hval 1 3 v1 rfl rfl) h1
  obtain ⟨a2, rfl, rfl, rfl, w2⟩ := open_int Tryz.underlying3 (hval 2 3 v2 rfl rfl) h2
  have hT := tabs5_of_laid hL
  clear hA0 hval0
  simp only [List.append_nil] at hW'
  refine (walk_esharesW W hT a0 c0 l0 hb0 a1 a2).mono fun e W' ⟨he, hfr⟩ => ?_
  subst he
  have bel : Below W.heap.size W W' := hfr.below (Nat.le_refl _) (fun k hk => by simp at hk)
  exact ⟨_, rfl, _, _, _, [], _, [], hW', trodAll_mk1 (shut_bool Tryz.underlying4 _), (trodAll_cons_mk (Below.trod eshares_out (by kernel_rfl) (of_decide_eq_true (by kernel_rfl)) k0 bel lt0) (trodAll_cons_mk (shut_int Tryz.underlying3 w1) (trodAll_cons_mk (shut_int Tryz.underlying3 w2) trodAll_mk0))), rfl, bel.frame _, fun h => by cases h⟩
theorem eshares_j0 : (Rows.entrySharesRow.wf (OpenSpec.ofChange Rows.entrySharesSpec)) = true := by kernel_rfl
theorem eshares_j1 : (laidOutB Tryz.prog) = true := by kernel_rfl
theorem eshares_j2 : (mapsRowed Tryz.prog) = true := by kernel_rfl
theorem eshares_j3 : (Tryz.f4.params.all (Tryz.prog.readableRec ·)) = true := by kernel_rfl
theorem eshares_j4 : (namedTie Tryz.prog Rows.entrySharesRow.named Rows.entrySharesSpec.vars) = true := by kernel_rfl
theorem eshares_j5 : ((Rows.entrySharesRow.stops == [])) = true := by kernel_rfl
theorem eshares_j6 : ((Tryz.prog.stops == [])) = true := by kernel_rfl
theorem eshares_j7 : ((Rows.entrySharesRow.knobs == [])) = true := by kernel_rfl
theorem eshares_j8 : ((Tryz.prog.stopKnobs == [])) = true := by kernel_rfl
theorem eshares_j9 : ((Rows.entrySharesRow.inPlace == Tryz.prog.inPlace 4)) = true := by kernel_rfl
theorem eshares_j10 : ((Rows.entrySharesRow.unfollowed == Tryz.prog.unfollowed 4)) = true := by kernel_rfl
theorem eshares_j11 : ((Rows.entrySharesRow.recurses == Tryz.prog.recurses 4)) = true := by kernel_rfl
theorem eshares_j12 : ((Rows.entrySharesRow.named == Tryz.prog.varsNamed 4)) = true := by kernel_rfl
theorem eshares_j13 : ((Rows.entrySharesRow.maps == (Tryz.f4.params.toList ++ Rows.entrySharesSpec.plain.varTypes Tryz.prog).any (Tryz.prog.mapsRec ·))) = true := by kernel_rfl
theorem eshares_j14 : ((Rows.entrySharesRow.ifaces == (Tryz.f4.params.toList ++ Rows.entrySharesSpec.plain.varTypes Tryz.prog).any (Tryz.prog.ifacesRec ·))) = true := by kernel_rfl
theorem eshares_j15 : ((Rows.entrySharesRow.mapsOut == Tryz.prog.mapsAmong Tryz.f4.resultTypes.toList)) = true := by kernel_rfl
theorem eshares_j16 : ((Rows.entrySharesRow.loops == (Tryz.f4.params.toList ++ Rows.entrySharesSpec.plain.varTypes Tryz.prog).any (Tryz.prog.loopsFrom ·))) = true := by kernel_rfl
theorem eshares_j17 : ((Rows.entrySharesRow.wideKeys == (Tryz.f4.params.toList ++ Rows.entrySharesSpec.plain.varTypes Tryz.prog ++ Tryz.f4.resultTypes.toList).any (Tryz.prog.wideKeysFrom ·))) = true := by kernel_rfl
theorem eshares_j18 : (Rows.entrySharesSpec.vars.all (Tryz.prog.varReadable ·)) = true := by kernel_rfl
theorem eshares_j19 : (Tryz.f4.resultTypes.all (fun t => Tryz.prog.readableRec t && decide (t < Tryz.prog.types.size))) = true := by kernel_rfl
theorem eshares_j20 : ((Rows.entrySharesRow.ifacesOut == Tryz.f4.resultTypes.toList.any (Tryz.prog.ifacesRec ·))) = true := by kernel_rfl
theorem eshares_j21 : ((Rows.entrySharesRow.loopsOut == Tryz.f4.resultTypes.toList.any (Tryz.prog.loopsFrom ·))) = true := by kernel_rfl
theorem eshares_j22 : ((Rows.entrySharesRow.plainKeys == Tryz.prog.plainKeys)) = true := by kernel_rfl
theorem eshares_j23 : (Rows.entrySharesRow.shortTexts.isNone) = true := by kernel_rfl
theorem eshares_j24 : (Tryz.prog.stopsHeard) = true := by kernel_rfl
theorem eshares_j25 : (Tryz.prog.mayEnter) = true := by kernel_rfl
theorem eshares_j26 : ((Rows.entrySharesRow.lifted == Tryz.prog.liftsFinal)) = true := by kernel_rfl
theorem eshares_j27 : ((Tryz.prog.make == some Rows.entrySharesRow.make)) = true := by kernel_rfl
theorem eshares_j29 : ((Rows.entrySharesRow.pinned == Rows.entrySharesRow.pinnedBy)) = true := by kernel_rfl
theorem eshares_j30 : ((Rows.entrySharesRow.veiled == (Tryz.f4.params.toList ++ Rows.entrySharesSpec.plain.varTypes Tryz.prog ++ Tryz.f4.resultTypes.toList).any (Tryz.prog.veiledRec ·))) = true := by kernel_rfl
theorem eshares_j31 : (Rows.entrySharesRow.veiledFits Tryz.prog Tryz.f4.params.toList (Tryz.f4.params.toList ++ Rows.entrySharesSpec.plain.varTypes Tryz.prog ++ Tryz.f4.resultTypes.toList)) = true := by kernel_rfl
theorem eshares_and {a b : Bool} (h1 : a = true) (h2 : b = true) : (a && b) = true := by rw [h1, h2]; rfl
set_option maxRecDepth 100000 in
theorem eshares_joined : joinedFacts Tryz.prog 4 Tryz.f4 Rows.entrySharesSpec Rows.entrySharesRow = true := by
  unfold joinedFacts
  refine (eshares_and (eshares_and (eshares_and (eshares_and (eshares_and (eshares_and (eshares_and (eshares_and (eshares_and (eshares_and (eshares_and (eshares_and (eshares_and (eshares_and (eshares_and (eshares_and (eshares_and (eshares_and (eshares_and (eshares_and (eshares_and (eshares_and (eshares_and (eshares_and (eshares_and (eshares_and (eshares_and (eshares_and (eshares_and (eshares_and (eshares_and eshares_j0 eshares_j1) eshares_j2) eshares_j3) eshares_j4) eshares_j5) eshares_j6) eshares_j7) eshares_j8) eshares_j9) eshares_j10) eshares_j11) eshares_j12) eshares_j13) eshares_j14) eshares_j15) eshares_j16) eshares_j17) eshares_j18) eshares_j19) eshares_j20) eshares_j21) eshares_j22) eshares_j23) eshares_j24) eshares_j25) eshares_j26) eshares_j27) ?_) eshares_j29) eshares_j30) eshares_j31)
  as_aux_lemma => kernel_rfl
theorem entryShares_row : Rows.EntrySharesSaid :=
  OpenClaim.holds_of_wide 4 Tryz.f4 rfl rfl rfl rfl rfl rfl rfl ⟨rfl, rfl, rfl, rfl, rfl⟩ rfl rfl rfl rfl rfl (by as_aux_lemma => kernel_rfl) Tryz.func4 eshares_joined
    (of_decide_eq_true (by as_aux_lemma => kernel_rfl)) (by as_aux_lemma => unfold Func.isWrapper; first | (rw [if_pos (by decide +kernel)]; kernel_rfl) | (rw [if_neg (by decide +kernel)]; exact ⟨rfl, rfl⟩))
    (fun os started H enc _ => lifted_eshares os started H enc)
theorem entryShares_holds : Rows.EntrySharesCardSaid :=
  Claim7.holds_tied_plain_at .later [] [.data, .widerDeep, .data, .data, .data] true (true, "0f3107695fff511d3bc61653d6dc9e1d65516ab92abead704dc5710afb423c3f") true
    entryShares_row (fun _ h => by cases h) (by as_aux_lemma => kernel_rfl) (fun _ h => by cases h) entryShares_row_tie rfl ⟨rfl, rfl⟩ (by as_aux_lemma => kernel_rfl) rfl
    (fun f fn hf hfn => by
      obtain rfl : f = 4 := Option.some.inj ((show Tryz.prog.funcNamed "columbarium/columbariumlaw24.EntryShares" = some 4 by kernel_rfl).symm.trans hf) |>.symm
      obtain rfl : fn = Tryz.f4 := (Option.some.inj (Tryz.func4.symm.trans hfn)).symm
      exact ⟨by as_aux_lemma => kernel_rfl, fun j t ht => by
        rw [Tryz.params4] at ht
        have hm : t ∈ [34, 3, 3] := by simpa using Array.mem_of_getElem? ht
        have hall : ([34, 3, 3].all fun u => !Tryz.prog.wantsStandIn u) = true := by as_aux_lemma => kernel_rfl
        exact (show Tryz.prog.wantsStandIn t = false by simpa using List.all_eq_true.1 hall t hm)⟩)
    (by as_aux_lemma => kernel_rfl)
#print axioms entryShares_holds
end Go.Proofs.YtolhkhdbgnciiaaGreatDoor
