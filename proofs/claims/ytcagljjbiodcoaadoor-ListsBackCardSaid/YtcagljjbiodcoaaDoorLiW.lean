/- Package lists: within. -/
import Derived.Test.YtcagljjbiodcoaaDoorLiE
import Derived.WalkMore
namespace Go.Proofs.YtcagljjbiodcoaaDoor
set_option linter.unusedVariables false
open Go.RowKit Go.Shelf
attribute [local go_sem] Oper.semAt_some

/-- Whether a list has a slab, and the last one ahead of its place, and 1. -/
def wth (x : Nat) : Nat → List Nat → Bool × Nat
  | p, [] => (false, p)
  | p, y :: l => if x < y then (false, p) else if y = x then (true, p) else wth x (y + 1) l
def pv (l : List Nat) : Nat := (l.getLast?.map (· + 1)).getD 0
theorem pv_snoc (l : List Nat) (x : Nat) : pv (l ++ [x]) = x + 1 := by simp [pv]
theorem wth_pre (x : Nat) : ∀ (pre rest : List Nat) (p : Nat), (∀ y ∈ pre, y < x) → wth x p (pre ++ rest) = wth x (if pre = [] then p else pv pre) rest
  | [], rest, p, _ => rfl
  | y :: pre, rest, p, h => by
    have hy := h y (List.mem_cons_self ..)
    rw [List.cons_append, wth, if_neg (by omega), if_neg (by omega), wth_pre x pre rest (y + 1) (fun z hz => h z (List.mem_cons_of_mem _ hz))]
    rw [if_neg (show ¬ (y :: pre) = [] by simp)]
    congr 1
    split
    · next e => subst e; rfl
    · next e =>
      unfold pv
      obtain ⟨z, l', e2⟩ : ∃ z l', pre = l' ++ [z] := ⟨pre.getLast e, pre.dropLast, (List.dropLast_concat_getLast e).symm⟩
      rw [e2, ← List.cons_append, List.getLast?_append, List.getLast?_append]
      rfl

/-- A scope through which the run goes without a goto, fenced. -/
theorem wpIn_scope {n : Nat} {P : Program} {c : Code} {Q : Exit → Act → World → Prop} {a : Act} {w : World} (h : c.wpIn Fence.wide n P (Exit.noGoto Q) a w) : (Code.scope c).wpIn Fence.wide n P Q a w :=
  wpIn_wide.2 (wp_scope_straight (wpIn_wide.1 h))

theorem leach_in (n : Nat) (m : Nat) (c : Int) (w : World) :
    CallsIn Fence.wide n Tryd.prog 80 #[.pointer (some ⟨m, 0, none⟩), .int .i64 c] w fun e w' => e = .returned (.func (.func 109) #[] #[.pointer (some ⟨w.heap.size, 0, none⟩), .pointer (some ⟨w.heap.size + 1, 0, none⟩)]) ∧ w' = (w.alloc (.cells #[.pointer (some ⟨m, 0, none⟩)] 30)).alloc (.cells #[.int .i64 c] 3) := by
  refine callsIn_of_wp Tryd.func80 rfl trivial ?_ rfl
  simp only [Tryd.ntmps80, List.size_toArray, List.length_cons, List.length_nil, Nat.reduceAdd, Nat.reduceSub, Array.replicate_succ, Array.replicate_zero, List.push_toArray, List.append_toArray, List.nil_append, List.cons_append]
  gi_wp2
  go_ret
  exact ⟨rfl, rfl⟩

set_option maxRecDepth 100000 in
set_option maxHeartbeats 4000000 in
theorem within_in (n : Nat) (hn : 4 ≤ n) (w : World) (q : MH) (t : TM) (h : IsT w q t) (c : Nat) (hc : c ≤ 9) (l : List Nat) (hl : Lk t 0 (t.rt (3 + c)) l) (hso : l.Pairwise (· < ·)) (x : Nat) :
    CallsIn Fence.wide n Tryd.prog 75 #[.pointer (some ⟨q.m, 0, none⟩), .int .i64 c, .int .i64 x] w fun e w' => e = .returned (.tuple #[.bool (wth x 0 l).1, .int .i64 (wth x 0 l).2]) ∧ IsT w' q t ∧ Fr q.blocks w w' := by
  have h1 : 1 ≤ n := by omega
  refine callsIn_of_wp_marks Tryd.func75 rfl trivial ?_ rfl
  simp only [Tryd.ntmps75, List.size_toArray, List.length_cons, List.length_nil, Nat.reduceAdd, Nat.reduceSub, Array.replicate_succ, Array.replicate_zero, List.push_toArray, List.append_toArray, List.nil_append, List.cons_append]
  gi_wp2
  refine wpIn_scope ?_
  gi_wp2
  refine wpIn_label ?_
  gi_wp2_with (first | (refine ⟨trivial, ?_⟩; gi_at_call 80; refine (leach_in _ _ _ _).mono ?_; rintro e w' ⟨rfl, rfl⟩))
  obtain ⟨W0, hW0⟩ : ∃ W0, (((((w.alloc (.cells #[.int .i64 x] 3)).alloc (.cells #[.int .i64 0] 3)).alloc (.cells #[.bool false] 4)).alloc (.cells #[.pointer (some ⟨q.m, 0, none⟩)] 30)).alloc (.cells #[.int .i64 c] 3)) = W0 := ⟨_, rfl⟩
  have bX : Blk W0 w.heap.size 3 #[.int .i64 x] := by rw [← hW0]; exact ((((Blk.new w _ _).alloc _).alloc _).alloc _).alloc _
  have bP : Blk W0 (w.heap.size + 1) 3 #[.int .i64 (0 : Nat)] := by
    rw [← hW0]
    have := ((((Blk.new (w.alloc (.cells #[.int .i64 x] 3)) 3 #[.int .i64 0]).alloc (.cells #[.bool false] 4)).alloc (.cells #[.pointer (some ⟨q.m, 0, none⟩)] 30)).alloc (.cells #[.int .i64 c] 3))
    rwa [World.size_alloc] at this
  have bI : Blk W0 (w.heap.size + 1 + 1) 4 #[.bool false] := by
    rw [← hW0]
    have := (((Blk.new ((w.alloc (.cells #[.int .i64 x] 3)).alloc (.cells #[.int .i64 0] 3)) 4 #[.bool false]).alloc (.cells #[.pointer (some ⟨q.m, 0, none⟩)] 30)).alloc (.cells #[.int .i64 c] 3))
    rwa [World.size_alloc, World.size_alloc] at this
  have bM : Blk W0 (w.heap.size + 1 + 1 + 1) 30 #[.pointer (some ⟨q.m, 0, none⟩)] := by
    rw [← hW0]
    have := ((Blk.new (((w.alloc (.cells #[.int .i64 x] 3)).alloc (.cells #[.int .i64 0] 3)).alloc (.cells #[.bool false] 4)) 30 #[.pointer (some ⟨q.m, 0, none⟩)]).alloc (.cells #[.int .i64 c] 3))
    rwa [World.size_alloc, World.size_alloc, World.size_alloc] at this
  have bC : Blk W0 (w.heap.size + 1 + 1 + 1 + 1) 3 #[.int .i64 c] := by
    rw [← hW0]
    have := Blk.new ((((w.alloc (.cells #[.int .i64 x] 3)).alloc (.cells #[.int .i64 0] 3)).alloc (.cells #[.bool false] 4)).alloc (.cells #[.pointer (some ⟨q.m, 0, none⟩)] 30)) 3 #[.int .i64 c]
    rwa [World.size_alloc, World.size_alloc, World.size_alloc, World.size_alloc] at this
  have fr0 : Fr q.blocks w W0 := by rw [← hW0]; exact (((((Fr.refl _ w).alloc _).alloc _).alloc _).alloc _).alloc _
  have hT0 : IsT W0 q t := by rw [← hW0]; exact ((((h.alloc _).alloc _).alloc _).alloc _).alloc _
  have hz0 : W0.heap.size = w.heap.size + 5 := by rw [← hW0]; simp
  have hlt := h.lt
  rw [hW0]
  clear hW0
  have hq : ∀ k, w.heap.size ≤ k → k ∉ q.blocks := fun k hk hm => by have := hlt k hm; omega
  have hgx := h.tab.size
  have hbook : ∀ N, N ≤ W0.heap.size → ∀ k ∈ [W0.heap.size, W0.heap.size + 1], k ∈ q.blocks ∨ N ≤ k := fun N hN k hk => by simp at hk; exact .inr (by omega)
  have hnb : ∀ k, k < W0.heap.size → k ∉ [W0.heap.size, W0.heap.size + 1] := fun k hk hm => by simp at hm; omega
  have hfrM : ∀ A B, EachM A q t (w.heap.size + 1 + 1 + 1) (w.heap.size + 1 + 1 + 1 + 1) c → Fr [W0.heap.size, W0.heap.size + 1] A B → EachM B q t (w.heap.size + 1 + 1 + 1) (w.heap.size + 1 + 1 + 1 + 1) c := fun A B hM hf =>
    ⟨hM.m.fr hf (fun k hk => hnb k (by have := hlt k hk; omega)) (fun k hk => hnb k (by omega)), hM.bm.fr hf (hnb _ (by omega)), hM.bc.fr hf (hnb _ (by omega))⟩
  have hset : ∀ (g : Nat) (v : Value) (W : World), (g = w.heap.size + 1 ∨ g = w.heap.size + 1 + 1) → EachM W q t (w.heap.size + 1 + 1 + 1) (w.heap.size + 1 + 1 + 1 + 1) c → EachM (W.setCell ⟨g, 0, none⟩ v) q t (w.heap.size + 1 + 1 + 1) (w.heap.size + 1 + 1 + 1 + 1) c := fun g v W hg hM => by
    have hf : Fr [g] W (W.setCell ⟨g, 0, none⟩ v) := (Fr.refl _ _).setCell (.inl (by simp)) _
    refine ⟨hM.m.fr hf (fun k hk hm => ?_) (fun k hk hm => ?_), hM.bm.fr hf (by simp; omega), hM.bc.fr hf (by simp; omega)⟩
    · simp at hm; subst hm; exact hq _ (by omega) hk
    · simp at hm; omega
  have hkeep : ∀ (g : Nat) (v : Value) (W : World), W0.heap.size + 1 < W.heap.size → (g = w.heap.size + 1 ∨ g = w.heap.size + 1 + 1) → Keep2 W0.heap.size W (W.setCell ⟨g, 0, none⟩ v) := fun g v W hW hg =>
    ((Fr.refl [g] W).setCell (p := ⟨g, 0, none⟩) (.inl (by simp)) v).keep2 hW ⟨by simp; omega, by simp; omega⟩
  refine wpIn_rng rfl h1 (gf := 109) (lb := #[.pointer (some ⟨w.heap.size + 1 + 1 + 1, 0, none⟩), .pointer (some ⟨w.heap.size + 1 + 1 + 1 + 1, 0, none⟩)]) rfl trivial (enters_of Tryd.func109 (by kernel_rfl) rfl)
    (leach1 (n - 1) (by omega) q t (w.heap.size + 1 + 1 + 1) (w.heap.size + 1 + 1 + 1 + 1) c hc l hl hso (hq _ (by omega)) (hq _ (by omega))) (fun _ => rfl)
    (fun A B hA hM hs => ⟨hs.1.keep2 hA ⟨hq _ (by omega), hq _ (by omega)⟩, hs.1.size⟩)
    (fun pre W => EachM W q t (w.heap.size + 1 + 1 + 1) (w.heap.size + 1 + 1 + 1 + 1) c ∧ Fr q.blocks w W ∧ (Blk W w.heap.size 3 #[.int .i64 x] ∧ Blk W (w.heap.size + 1) 3 #[.int .i64 (pv pre)] ∧ Blk W (w.heap.size + 1 + 1) 4 #[.bool false]) ∧ ∀ y ∈ pre, y < x)
    (fun cd pre W => EachM W q t (w.heap.size + 1 + 1 + 1) (w.heap.size + 1 + 1 + 1 + 1) c ∧ Fr q.blocks w W ∧ cd = .exit 0 ∧ Blk W (w.heap.size + 1) 3 #[.int .i64 (wth x 0 l).2] ∧ Blk W (w.heap.size + 1 + 1) 4 #[.bool (wth x 0 l).1])
    (fun s A hh => hh.1) (fun cd s A hh => hh.1)
    ?hI ?hIx ?hIs ?hXs ⟨⟨hT0, bM, bC⟩, fr0, ⟨bX, bP, bI⟩, fun y hy => by cases hy⟩
    (fun y a' W => a' = { tmps := #[.pointer (some ⟨q.m, 0, none⟩), .int .i64 c, .int .i64 x, undef, undef, .pointer (some ⟨w.heap.size, 0, none⟩), .bool false, .int .i64 0, .pointer (some ⟨w.heap.size + 1, 0, none⟩), .pointer (some ⟨w.heap.size + 1 + 1, 0, none⟩), .int .i64 y, .pointer (some ⟨q.m, 0, none⟩), .int .i64 c, .func (.func 109) #[] #[.pointer (some ⟨w.heap.size + 1 + 1 + 1, 0, none⟩), .pointer (some ⟨w.heap.size + 1 + 1 + 1 + 1, 0, none⟩)], .int .i64 y, undef, undef, undef, undef, undef, undef, undef, undef, undef, undef, undef, undef], defers := [] })
    (fun y a' A B hh _ => hh) ?assign ?body ?done ?stop
  case hI => exact fun s A B ⟨hM, hF, ⟨hX, hP, hB⟩, hp⟩ hf => ⟨hfrM A B hM hf, hF.step hf (hbook w.heap.size (by omega)), ⟨hX.fr hf (hnb _ (by omega)), hP.fr hf (hnb _ (by omega)), hB.fr hf (hnb _ (by omega))⟩, hp⟩
  case hIx => exact fun cd s A B ⟨hM, hF, hcd, hP, hB⟩ hf => ⟨hfrM A B hM hf, hF.step hf (hbook w.heap.size (by omega)), hcd, hP.fr hf (hnb _ (by omega)), hB.fr hf (hnb _ (by omega))⟩
  case hIs => exact fun s A B ⟨hM, hF, ⟨hX, hP, hB⟩, hp⟩ hs => ⟨⟨hs.2, hM.bm.fr hs.1 (hq _ (by omega)), hM.bc.fr hs.1 (hq _ (by omega))⟩, hF.trans hs.1, ⟨hX.fr hs.1 (hq _ (by omega)), hP.fr hs.1 (hq _ (by omega)), hB.fr hs.1 (hq _ (by omega))⟩, hp⟩
  case hXs => exact fun cd s A B ⟨hM, hF, hcd, hP, hB⟩ hs => ⟨⟨hs.2, hM.bm.fr hs.1 (hq _ (by omega)), hM.bc.fr hs.1 (hq _ (by omega))⟩, hF.trans hs.1, hcd, hP.fr hs.1 (hq _ (by omega)), hB.fr hs.1 (hq _ (by omega))⟩
  case assign =>
    rintro lo pre y W K hW hi hK
    gi_wp2
    exact hK _ _ (Keep2.refl _ _) hi rfl
  case body =>
    rintro lo pre y a' W hW ⟨rest, hpr⟩ ⟨hM, hF, ⟨hX, hP, hB⟩, hpre⟩ rfl
    have hc1 := hX.cell 0
    have hc2 := hP.cell 0
    have hc3 := hB.cell 0
    have hf2 := hP.frozen 0
    have hf3 := hB.frozen 0
    simp at hc1 hc2 hc3
    have hwt : wth x 0 l = wth x (pv pre) (y :: rest) := by
      rw [hpr, wth_pre x pre (y :: rest) 0 hpre]
      by_cases h0 : pre = []
      · rw [if_pos h0, h0]; rfl
      · rw [if_neg h0]
    rw [wth] at hwt
    have hya : y < t.a := hl.lt y (by rw [hpr]; simp)
    have ha64 := (tm_small h.ok).1
    have HM := Lib.hid hM
    have HF := Lib.hid hF
    have HX := Lib.hid hX
    have HP := Lib.hid hP
    have HB := Lib.hid hB
    have HPR := Lib.hid hpre
    clear hM hF hX hP hB hpre hpr bX bP bI bM bC fr0 hT0 hfrM hbook hnb hl hso h
    have HSET := Lib.hid hset
    have HKEEP := Lib.hid hkeep
    clear hset hkeep
    by_cases hxy : x < y
    · rw [if_pos hxy] at hwt
      have HWT := Lib.hid hwt
      have b1 : decide ((x : Int) < y) = true := by simp; omega
      have b1' : decide (x < y) = true := by simp; omega
      clear hwt
      gi_wp2
      exact ⟨Keep2.refl _ _, HM.out, HF.out, rfl, by rw [HWT.out]; exact HP.out, by rw [HWT.out]; exact HB.out⟩
    · rw [if_neg hxy] at hwt
      have b1 : decide ((x : Int) < y) = false := by simp; omega
      have b1' : decide (x < y) = false := by simp; omega
      by_cases he : y = x
      · rw [if_pos he] at hwt
        have HWT := Lib.hid hwt
        have b2 : ((y : Int) == x) = true := by simp; omega
        have b2' : (y == x) = true := by simp; omega
        clear hwt hxy
        gi_wp2
        refine ⟨HKEEP.out _ _ _ hW (.inr rfl), HSET.out _ _ _ (.inr rfl) HM.out, HF.out.setCell (.inr (by simp; omega)) _, rfl, by rw [HWT.out]; exact HP.out.far (p := ⟨w.heap.size + 1 + 1, 0, none⟩) (by simp) _, ?_⟩
        rw [HWT.out]
        have := HB.out.set 0 (.bool true)
        simpa using this
      · have b2 : ((y : Int) == x) = false := by simp; omega
        have b2' : (y == x) = false := by simp; omega
        have hyx : y < x := by omega
        clear hwt hxy
        gi_wp2
        refine ⟨HKEEP.out _ _ _ hW (.inl rfl), HSET.out _ _ _ (.inl rfl) HM.out, HF.out.setCell (.inr (by simp)) _, ⟨HX.out.far (p := ⟨w.heap.size + 1, 0, none⟩) (by simp) _, ?_, HB.out.far (p := ⟨w.heap.size + 1, 0, none⟩) (by simp) _⟩, fun z hz => ?_⟩
        · have := HP.out.set 0 (.int .i64 ((y : Int) + 1))
          rw [pv_snoc, Int.natCast_add]
          simpa using this
        · rcases List.mem_append.1 hz with hz | hz
          · exact HPR.out z hz
          · simp at hz; omega
  case done =>
    rintro D xs W hD hxs ⟨hM, hF, ⟨hX, hP, hB⟩, hpre⟩ hK
    have hc2 := hP.cell 0
    have hc3 := hB.cell 0
    simp at hc2 hc3
    have hres : wth x 0 l = (false, pv xs) := by
      subst hxs
      have := wth_pre x xs [] 0 hpre
      rw [List.append_nil] at this
      rw [this, wth]
      by_cases h0 : xs = []
      · rw [if_pos h0, h0]; rfl
      · rw [if_neg h0]
    gi_wp2
    gi_quiet (fail)
    gi_wp2
    rename_i nq
    rw [Exit.noGoto_ret]
    refine ⟨by simp, .inl ⟨_, _, rfl, run_takeDeferred (w := W.drewN nq) hK, ?_⟩⟩
    have hfp : Fr [D] W ((W.drewN nq).putObj D (.deferred none)) := ((Fr.refl [D] W).drewN nq).trans (Fr.putObj _ _ (by simp))
    refine ⟨_, results_tmp2 rfl _ _ _, ?_, hM.m.fr hfp (fun k hk hm => ?_) (fun k hk hm => ?_), hF.step hfp (by simp; omega)⟩
    · rw [hres]; subst hxs; rfl
    · simp at hm; subst hm; exact hq _ (by omega) hk
    · simp at hm; omega
  case stop =>
    rintro D cd pre W hD _ ⟨hM, hF, rfl, hP, hB⟩ hK
    have hc2 := hP.cell 0
    have hc3 := hB.cell 0
    simp at hc2 hc3
    gi_wp2
    gi_quiet (fail)
    gi_wp2
    rename_i nq
    rw [Exit.noGoto_ret]
    refine ⟨by simp, .inl ⟨_, _, rfl, run_takeDeferred (w := W.drewN nq) hK, ?_⟩⟩
    have hfp : Fr [D] W ((W.drewN nq).putObj D (.deferred none)) := ((Fr.refl [D] W).drewN nq).trans (Fr.putObj _ _ (by simp))
    refine ⟨_, results_tmp2 rfl _ _ _, ?_, hM.m.fr hfp (fun k hk hm => ?_) (fun k hk hm => ?_), hF.step hfp (by simp; omega)⟩
    · rfl
    · simp at hm; subst hm; exact hq _ (by omega) hk
    · simp at hm; omega
end Go.Proofs.YtcagljjbiodcoaaDoor
