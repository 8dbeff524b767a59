/- Walks: package watch: Sum, Runs. -/
import Derived.Test.YtgkpbmgbaonbhaaW11c
namespace Go.Proofs.Ytgkpbmgbaonbhaa
set_option linter.unusedVariables false
open Go.RowKit Go.Shelf
attribute [local go_sem] Oper.semAt_some

theorem each_in (n : Nat) (a : Option Addr) (w : World) :
    CallsIn Fence.wide n Try.prog 29 #[.pointer a] w fun e w' => e = .returned (.func (.func 31) #[] #[.pointer (some ⟨w.heap.size, 0, none⟩)]) ∧ w' = w.alloc (.cells #[.pointer a] 24) := by
  refine callsIn_of_wp Try.func29 rfl trivial ?_ rfl
  simp only [Try.ntmps29, List.size_toArray, List.length_cons, List.length_nil, Nat.reduceAdd, Nat.reduceSub, Array.replicate_succ, Array.replicate_zero, List.push_toArray, List.append_toArray, List.nil_append, List.cons_append]
  gi_wp2
  go_ret
  exact ⟨rfl, rfl⟩

abbrev RunT := { r : Nat × Nat × Nat // Rb r }
def vals (l : List RunT) : List (Nat × Nat × Nat) := l.map (·.1)

theorem each_stops (n : Nat) (hn : 1 ≤ n) (Bn p b : Nat) (ks : List Nat) (lk ft : Int) (w : World) (hBn : Blk w Bn 24 #[.pointer (some ⟨p, 0, none⟩)]) (hW : IsW w p b ks lk ft) :
    SeqStopsK Fence.wide n Try.prog 31 #[.pointer (some ⟨Bn, 0, none⟩)] (fun r : RunT => #[runV r.1]) (Kept [p, b, Bn]) (fun ys => vals ys = runs ks) (fun _ => True) ks.length w := fun l J Jx W hb hJ _ hY h0 => by
  refine (each1_in n hn l Bn p b ks lk ft (fun pre W => ∃ pre', vals pre' = pre ∧ J pre' W) (fun pre W => ∃ pre', vals pre' = pre ∧ Jx pre' W) ?_ W ?_ (hBn.below hb hBn.lt) ⟨hW.st.below hb hW.st.lt, hW.row.below hb hW.row.lt, hW.len, hW.le⟩ ⟨[], rfl, h0⟩).mono ?_
  · rintro pre x W hx ⟨pre', rfl, hJ'⟩ hlen
    obtain ⟨fn, tmps, assign, body, hy, hR⟩ := hY pre' ⟨x, hx⟩ W hJ' (by simpa [vals] using hlen)
    refine ⟨fn, tmps, assign, body, hy, hR.mono ?_⟩
    rintro e W' (⟨he, h1, h2⟩ | ⟨he, h1⟩)
    · exact .inl ⟨he, ⟨_, by simp [vals], h1⟩, h2⟩
    · exact .inr ⟨he, _, by simp [vals], h1⟩
  · rintro s A B row ⟨pre', hp, hs⟩ hg hr
    exact ⟨pre', hp, hJ pre' A B row hs hg hr⟩
  · rintro e W' ⟨he, ⟨ys, rfl, pre', hp, h1⟩ | ⟨pre, _, pre', hp, h1⟩⟩
    · exact ⟨he, .inl ⟨pre', hp, h1⟩⟩
    · exact ⟨he, .inr ⟨pre', trivial, h1⟩⟩

theorem sumRuns_bound (k : Int) : ∀ l : List RunT, sumRuns k (vals l) ≤ 262144 * l.length
  | [] => by simp [vals, sumRuns]
  | r :: l => by
    have h1 := sumRuns_bound k l
    have h2 := r.2.2.1
    simp only [vals, List.map_cons, sumRuns, List.length_cons] at h1 ⊢
    split <;> omega

theorem blk_own {β : Type} (g : Nat) (t : TypeId) (f : β → Array Value) : Own (fun s W => Blk W g t (f s)) := fun s X Y row hs hg hrow => by
  refine (hg.block g hs.lt (fun e' => ?_)).trans hs
  obtain ⟨o, ho, hc⟩ := hrow g e'.symm
  rw [show X.heap[g]? = _ from hs] at ho; cases ho; cases hc

theorem kept_own {β : Type} {B : Nat} {L : List Nat} {W0 : World} (hz : ∀ k ∈ L, k < B) (hB : B ≤ W0.heap.size) : OwnFrom B (fun (_ : β) W => W0.heap.size ≤ W.heap.size ∧ Kept L W0 W) :=
  fun _ A C row hs hg hr => ⟨Nat.le_trans hs.1 hg.size, fun k hk => (hg.block k (by have := hz k hk; have := hs.1; omega) (fun e => by have := (hr k e.symm).1; have := hz k hk; omega)).trans (hs.2 k hk)⟩

/-- How many bytes are of a kind. -/
def sumL (ks : List Nat) (k : Int) : Nat := 4 * sumRuns k (runs ks)

set_option maxRecDepth 100000 in
set_option maxHeartbeats 2000000 in
theorem sum_in (n : Nat) (hn : 4 ≤ n) (w : World) (p b : Nat) (ks : List Nat) (lk ft k : Int) (h : IsW w p b ks lk ft) :
    CallsIn Fence.wide n Try.prog 15 #[.pointer (some ⟨p, 0, none⟩), .int .i64 k] w fun e w' => e = .returned (.int .i64 (sumL ks k)) ∧ Fr [] w w' := by
  have h1 : 1 ≤ n := by omega
  refine callsIn_of_wp_marks Try.func15 rfl trivial ?_ rfl
  simp only [Try.ntmps15, List.size_toArray, List.length_cons, List.length_nil, Nat.reduceAdd, Nat.reduceSub, Array.replicate_succ, Array.replicate_zero, List.push_toArray, List.append_toArray, List.nil_append, List.cons_append]
  gi_wp2_with (first | (refine ⟨trivial, ?_⟩; gi_at_call 25; refine (callsIn_wide.2 (none_some _ p b ks.length ks.length ((h.st.alloc _).cell 0))).mono ?_; rintro e w' ⟨rfl, rfl⟩) | (refine ⟨trivial, ?_⟩; gi_at_call 29; refine (each_in _ _ _).mono ?_; rintro e w' ⟨rfl, rfl⟩))
  have hs0 : ((w.alloc (.cells #[.int .i64 k] 3)).alloc (.cells #[.int .i64 0] 3)).heap.size = w.heap.size + 1 + 1 := by simp
  obtain ⟨W0, hW0⟩ : ∃ W0, ((w.alloc (.cells #[.int .i64 k] 3)).alloc (.cells #[.int .i64 0] 3)).alloc (.cells #[.pointer (some ⟨p, 0, none⟩)] 24) = W0 := ⟨_, rfl⟩
  have bK : Blk W0 w.heap.size 3 #[.int .i64 k] := by rw [← hW0]; exact ((Blk.new w _ _).alloc _).alloc _
  have bN : Blk W0 (w.heap.size + 1) 3 #[.int .i64 0] := by rw [← hW0]; have := (Blk.new (w.alloc (.cells #[.int .i64 k] 3)) 3 #[.int .i64 0]).alloc (.cells #[.pointer (some ⟨p, 0, none⟩)] 24); rwa [World.size_alloc] at this
  have bB : Blk W0 (w.heap.size + 1 + 1) 24 #[.pointer (some ⟨p, 0, none⟩)] := by rw [← hW0]; have := Blk.new ((w.alloc (.cells #[.int .i64 k] 3)).alloc (.cells #[.int .i64 0] 3)) 24 #[.pointer (some ⟨p, 0, none⟩)]; rwa [hs0] at this
  have fr0 : Below w.heap.size w W0 := by rw [← hW0]; exact (((Below.refl _ w).alloc (Nat.le_refl _) _).alloc (by simp) _).alloc (by simp; omega) _
  have hz0 : W0.heap.size = w.heap.size + 3 := by rw [← hW0]; simp
  have hw0 : IsW W0 p b ks lk ft := ⟨h.st.below fr0 h.st.lt, h.row.below fr0 h.row.lt, h.len, h.le⟩
  have hpl := h.st.lt
  have hbl := h.row.lt
  have hkl := h.len
  rw [hW0]
  clear hW0 hs0
  refine wpIn_rangeFunc_ownH rfl h1 (gf := 31) (lb := #[.pointer (some ⟨w.heap.size + 1 + 1, 0, none⟩)]) rfl trivial (enters_of Try.func31 (by kernel_rfl) rfl)
    (each_stops (n - 1) (by omega) (w.heap.size + 1 + 1) p b ks lk ft W0 bB hw0) Kept.t (Kept.b (n := W0.heap.size) (by simp; omega)) (Below.refl _ _) (fun _ => rfl)
    (fun pre W => (Blk W w.heap.size 3 #[.int .i64 k] ∧ Blk W (w.heap.size + 1) 3 #[.int .i64 ((4 * sumRuns k (vals pre) : Nat) : Int)]) ∧ Below w.heap.size w W ∧ W0.heap.size ≤ W.heap.size ∧ Kept [p, b, w.heap.size + 1 + 1] W0 W)
    (fun _ _ _ => False)
    ?hI (fun _ _ _ _ _ hs _ _ => hs) ?h0
    (fun x a' W => ∃ Bx, w.heap.size + 1 + 1 < Bx ∧ Blk W Bx 48 #[.int .i64 (4 * x.1.1), .int .i64 (4 * x.1.2.1), .int .i64 x.1.2.2] ∧
      a' = { tmps := #[.pointer (some ⟨p, 0, none⟩), .int .i64 k, undef, .pointer (some ⟨w.heap.size, 0, none⟩), .int .i64 0, .pointer (some ⟨w.heap.size + 1, 0, none⟩), .pointer (some ⟨Bx, 0, none⟩), .pointer (some ⟨p, 0, none⟩), .bool false, .pointer (some ⟨p, 0, none⟩), .func (.func 31) #[] #[.pointer (some ⟨w.heap.size + 1 + 1, 0, none⟩)], runV x.1, undef, undef, undef, undef, undef, undef, undef, undef, undef], defers := [] })
    ?hAx ?assign ?body ?done ?stop
  case hI =>
    exact OwnFrom.and (OwnFrom.and (Own.from (blk_own _ _ (fun _ => #[.int .i64 k])) _) (Own.from (blk_own _ _ (fun pre => #[.int .i64 ((4 * sumRuns k (vals pre) : Nat) : Int)])) _))
      (OwnFrom.and (ownFrom_below (Nat.le_refl _) (by omega)) (kept_own (by simp; omega) (Nat.le_refl _)))
  case h0 => exact ⟨⟨bK, bN⟩, fr0, Nat.le_refl _, fun _ _ => rfl⟩
  case hAx =>
    rintro x a' s A B row ⟨Bx, h1, h2, h3⟩ hg hr
    exact ⟨Bx, h1, blk_own Bx _ (fun _ : Unit => _) () A B row h2 hg (fun r e => (hr r e).2), h3⟩
  case assign =>
    rintro l pre x W K ⟨⟨i1, i2⟩, i3, i4, i5⟩ hK
    simp only [runV]
    gi_wp2
    exact hK _ _ ((KeepsOthers.alloc _ _).from _) (fun g hg => Below.heap_alloc W _ g (by simp at hg; omega)) ⟨⟨i1.alloc _, i2.alloc _⟩, i3.alloc i3.size _, by simp; omega, i5.t (fun g hg => Below.heap_alloc W _ g (by simp at hg; omega))⟩
      ⟨W.heap.size, by omega, Blk.new W _ _, rfl⟩
  case body =>
    rintro l pre x a' W hl ⟨r, hr⟩ ⟨⟨i1, i2⟩, i3, i4, i5⟩ ⟨Bx, hBx, bX, rfl⟩ hlt
    have hx1 := x.2.1
    have hx2 := x.2.2.1
    have hsb := sumRuns_bound k (pre ++ [x])
    have hsn := sumRuns_snoc k (vals pre) x.1
    rw [show vals pre ++ [x.1] = vals (pre ++ [x]) by simp [vals]] at hsn
    simp only [List.length_append, List.length_singleton] at hsb
    have hX0 := bX.cell 1
    have hX1 := bX.cell 2
    have hc1 := i1.cell 0
    have hc2 := i2.cell 0
    have hf2 := i2.frozen 0
    generalize hS : sumRuns k (vals pre) = S at *
    generalize x.1.2.2 = xk at *
    generalize x.1.2.1 = xl at *
    have hS2 : S ≤ 262144 * 262144 := by
      have := sumRuns_bound k pre
      rw [hS] at this
      have h2 : 262144 * pre.length ≤ 262144 * 262144 := Nat.mul_le_mul_left _ (by omega)
      omega
    have HN := Lib.hid hsn
    clear hsn hS hsb
    by_cases hq : (xk : Int) = k
    · have hqb : ((xk : Int) == k) = true := by simpa using hq
      have HQ := Lib.hid hq
      clear hq
      gi_wp2
      refine ⟨(KeepsOthers.setCell _ _ _).from _, fun g hg => Below.heap_setCell _ _ _ _ (by simp at hg ⊢; omega), ⟨⟨i1.far (p := ⟨w.heap.size + 1, 0, none⟩) (by simp) _, ?_⟩, i3.setCell (by simp) _, by simpa [World.setCell] using i4, i5.t (fun g hg => Below.heap_setCell _ _ _ _ (by simp at hg ⊢; omega))⟩⟩
      have := i2.set 0 (.int .i64 (4 * S + 4 * xl))
      rw [HN.out, if_pos HQ.out, show ((4 * (S + xl) : Nat) : Int) = 4 * S + 4 * xl by omega]
      simpa using this
    · have hqb : ((xk : Int) == k) = false := by simpa using hq
      have HQ := Lib.hid hq
      clear hq
      gi_wp2
      exact ⟨KeepsFrom.refl _ _, fun _ _ => rfl, ⟨⟨i1, by rw [HN.out, if_neg HQ.out]; exact i2⟩, i3, i4, i5⟩⟩
  case done =>
    rintro D ys W hD hS ⟨⟨i1, i2⟩, i3, i4, i5⟩ hK
    have hc2 := i2.cell 0
    gi_wp2
    refine ⟨by simp, .inl ⟨_, _, rfl, run_takeDeferred hK, ?_⟩⟩
    refine ⟨_, results_tmp rfl _ _ _, ?_, Fr.of_below (i3.trans (belowK_b (w := w) (Nat.le_refl _) W D _ _ (by omega) hK rfl rfl))⟩
    exact ret_int (by unfold sumL; omega)
  case stop =>
    rintro D c pre W _ _ hh _
    exact hh.elim

theorem info_run : (Try.prog.info? 48).map (fun i => (i.zero, i.size, i.bytes)) = some (some (.agg #[.int .i64 0, .int .i64 0, .int .i64 0]), 3, 24) := by kernel_rfl

/-- The rows as cells. -/
def runCells (l : List (Nat × Nat × Nat)) : List Value := l.flatMap fun r => [.int .i64 (4 * r.1), .int .i64 (4 * r.2.1), .int .i64 r.2.2]
theorem runCells_snoc (l : List (Nat × Nat × Nat)) (r : Nat × Nat × Nat) : runCells (l ++ [r]) = runCells l ++ [.int .i64 (4 * r.1), .int .i64 (4 * r.2.1), .int .i64 r.2.2] := by simp [runCells]

theorem cells_new3 (w : World) (a b c : Value) (t : TypeId) : ∀ j u, [a, b, c][j]? = some u → (w.alloc (.cells #[a, b, c] t)).cell? ((⟨w.heap.size, 0, none⟩ : Addr).add j) = some u := by
  intro j u hj
  have h := (Blk.new w t #[a, b, c]).cell j
  have : (⟨w.heap.size, 0, none⟩ : Addr).add j = ⟨w.heap.size, j, none⟩ := by unfold Addr.add; split <;> simp_all
  rw [this, h]
  simpa using hj

set_option maxRecDepth 100000 in
set_option maxHeartbeats 2000000 in
theorem runs_in (n : Nat) (hn : 4 ≤ n) (w : World) (p b : Nat) (ks : List Nat) (lk ft : Int) (h : IsW w p b ks lk ft) :
    CallsIn Fence.wide n Try.prog 22 #[.pointer (some ⟨p, 0, none⟩)] w fun e w' => ∃ v, e = .returned v ∧ w'.ownsRow w.heap.size 48 3 v (runs ks).length (runCells (runs ks)) ∧ Fr [] w w' := by
  have h1 : 1 ≤ n := by omega
  obtain ⟨i0, hi, hz0, hz1, hz2⟩ := info_parts info_run
  refine callsIn_of_wp_marks Try.func22 rfl trivial ?_ rfl
  simp only [Try.ntmps22, List.size_toArray, List.length_cons, List.length_nil, Nat.reduceAdd, Nat.reduceSub, Array.replicate_succ, Array.replicate_zero, List.push_toArray, List.append_toArray, List.nil_append, List.cons_append]
  gi_wp2_with (first | (refine ⟨trivial, ?_⟩; gi_at_call 25; refine (callsIn_wide.2 (none_some _ p b ks.length ks.length (h.st.cell 0))).mono ?_; rintro e w' ⟨rfl, rfl⟩) | (refine ⟨trivial, ?_⟩; gi_at_call 29; refine (each_in _ _ _).mono ?_; rintro e w' ⟨rfl, rfl⟩))
  obtain ⟨W0, hW0⟩ : ∃ W0, (w.alloc (.cells #[.slice none 0 0] 41)).alloc (.cells #[.pointer (some ⟨p, 0, none⟩)] 24) = W0 := ⟨_, rfl⟩
  have bL : Boxed W0 w.heap.size 41 (.slice none 0 0) := by rw [← hW0]; exact (Boxed.new w _ _).alloc _
  have bB : Blk W0 (w.heap.size + 1) 24 #[.pointer (some ⟨p, 0, none⟩)] := by rw [← hW0]; have := Blk.new (w.alloc (.cells #[.slice none 0 0] 41)) 24 #[.pointer (some ⟨p, 0, none⟩)]; rwa [World.size_alloc] at this
  have fr0 : Below w.heap.size w W0 := by rw [← hW0]; exact ((Below.refl _ w).alloc (Nat.le_refl _) _).alloc (by simp) _
  have hz0' : W0.heap.size = w.heap.size + 2 := by rw [← hW0]; simp
  have hw0 : IsW W0 p b ks lk ft := ⟨h.st.below fr0 h.st.lt, h.row.below fr0 h.row.lt, h.len, h.le⟩
  have hpl := h.st.lt
  have hbl := h.row.lt
  have hkl := h.len
  rw [hW0]
  clear hW0
  refine wpIn_rangeFunc_ownH rfl h1 (gf := 31) (lb := #[.pointer (some ⟨w.heap.size + 1, 0, none⟩)]) rfl trivial (enters_of Try.func31 (by kernel_rfl) rfl)
    (each_stops (n - 1) (by omega) (w.heap.size + 1) p b ks lk ft W0 bB hw0) Kept.t (Kept.b (n := W0.heap.size) (by simp; omega)) (Below.refl _ _) (fun _ => rfl)
    (fun pre W => (∃ v, Boxed W w.heap.size 41 v ∧ W.ownsRow w.heap.size 48 3 v pre.length (runCells (vals pre)) ∧ True) ∧ Below w.heap.size w W ∧ W0.heap.size ≤ W.heap.size ∧ Kept [p, b, w.heap.size + 1] W0 W)
    (fun _ _ _ => False)
    ?hI (fun _ _ _ _ _ hs _ _ => hs) ?h0
    (fun x a' W => ∃ Bx, w.heap.size + 1 < Bx ∧ Blk W Bx 48 #[.int .i64 (4 * x.1.1), .int .i64 (4 * x.1.2.1), .int .i64 x.1.2.2] ∧
      a' = { tmps := #[.pointer (some ⟨p, 0, none⟩), undef, .slice none 0 0, .pointer (some ⟨w.heap.size, 0, none⟩), .pointer (some ⟨Bx, 0, none⟩), .pointer (some ⟨p, 0, none⟩), .bool false, .pointer (some ⟨p, 0, none⟩), .func (.func 31) #[] #[.pointer (some ⟨w.heap.size + 1, 0, none⟩)], runV x.1, undef, undef, undef, undef, undef], defers := [] })
    ?hAx ?assign ?body ?done ?stop
  case hI =>
    exact OwnFrom.and (Own.from (holdsRow_own w.heap.size w.heap.size 41 48 3 (fun pre : List RunT => pre.length) (fun pre => runCells (vals pre)) (fun _ _ => True)) _)
      (OwnFrom.and (ownFrom_below (Nat.le_refl _) (by omega)) (kept_own (by simp; omega) (Nat.le_refl _)))
  case h0 => exact ⟨⟨_, bL, World.ownsRow_nil _ _ _ _, trivial⟩, fr0, Nat.le_refl _, fun _ _ => rfl⟩
  case hAx =>
    rintro x a' s A B row ⟨Bx, h1, h2, h3⟩ hg hr
    exact ⟨Bx, h1, blk_own Bx _ (fun _ : Unit => _) () A B row h2 hg (fun r e => (hr r e).2), h3⟩
  case assign =>
    rintro l pre x W K ⟨⟨v, i1, i2, _⟩, i3, i4, i5⟩ hK
    simp only [runV]
    gi_wp2
    exact hK _ _ ((KeepsOthers.alloc _ _).from _) (fun g hg => Below.heap_alloc W _ g (by simp at hg; omega)) ⟨⟨v, i1.alloc _, i2.alloc _, trivial⟩, i3.alloc i3.size _, by simp; omega, i5.t (fun g hg => Below.heap_alloc W _ g (by simp at hg; omega))⟩
      ⟨W.heap.size, by omega, Blk.new W _ _, rfl⟩
  case body =>
    rintro l pre x a' W hl ⟨r, hr⟩ ⟨⟨v, i1, i2, _⟩, i3, i4, i5⟩ ⟨Bx, hBx, bX, rfl⟩ hlt
    have hX0 := bX.cell 0
    have hX1 := bX.cell 1
    have hX2 := bX.cell 2
    have hc1 := i1.cell
    have hlw := i3.size
    gi_wp2_with (gi_at_builtin; refine wpListIn_append_own _ rfl _ _ 41 rfl w.heap.size 48 i0 (.agg #[.int .i64 0, .int .i64 0, .int .i64 0]) 3 24 Try.underlying41 hi hz0 hz1 hz2 rfl (by decide) _ _ _ rfl (i2.alloc _) ⟨W.heap.size, 0, none⟩ 1 1 [.int .i64 (4 * x.1.1), .int .i64 (4 * x.1.2.1), .int .i64 x.1.2.2] rfl rfl (cells_new3 _ _ _ _ _) (by simp [Value.oneCell']) (by unfold maxLen; omega) (by omega) (by simp; omega) ?_; intro v' w1 hown' hgrow _; obtain ⟨g', cap', rfl⟩ := ownsRow_succ hown'; obtain ⟨hv1, hv2, hr2, hk2, hb2⟩ := i1.appended (by decide) i2 hlw (Nat.le_refl _) hown' hgrow; have hc1' := hv1.cell; have hf1' := hv1.frozen)
    have hKp : Kept [p, b, w.heap.size + 1] W (w1.setCell ⟨w.heap.size, 0, none⟩ (.slice (some ⟨g', 0, none⟩) (pre.length + 1) cap')) := by
      have hBW : Blk W (w.heap.size + 1) 24 #[.pointer (some ⟨p, 0, none⟩)] := i5.blk bB (by simp)
      have hnr := hBW.lt
      intro g hg
      have hgl : g < W.heap.size := by simp at hg; omega
      have hgne : some g ≠ v.ownBlock := by
        simp only [List.mem_cons, List.not_mem_nil, or_false] at hg
        rcases hg with rfl | rfl | rfl
        · intro e; rcases i2.2 with ⟨rfl, _⟩ | ⟨g2, _, _, rfl, hle, _⟩
          · simp [Value.ownBlock] at e
          · simp [Value.ownBlock] at e; omega
        · intro e; rcases i2.2 with ⟨rfl, _⟩ | ⟨g2, _, _, rfl, hle, _⟩
          · simp [Value.ownBlock] at e
          · simp [Value.ownBlock] at e; omega
        · exact Boxed.not_row (t := 24) (e := 48) hBW (by decide) i2
      rw [Below.heap_setCell _ _ _ _ (by simp at hg ⊢; omega)]
      exact (hgrow.block g (by simp; omega) hgne).trans (Below.heap_alloc _ _ _ hgl)
    exact ⟨hk2.from _, hKp, ⟨⟨_, hv2, by simpa [vals, runCells_snoc] using hr2, trivial⟩, i3.trans hb2, by have := hb2.size; omega, i5.t hKp⟩⟩
  case done =>
    rintro D ys W hD hS ⟨⟨v, i1, i2, _⟩, i3, i4, i5⟩ hK
    have hc := i1.cell
    gi_wp2
    refine ⟨by simp, .inl ⟨_, _, rfl, run_takeDeferred hK, ?_⟩⟩
    refine ⟨_, results_tmp rfl _ _ _, v, rfl, ?_, Fr.of_below (i3.trans (belowK_b (w := w) (Nat.le_refl _) W D _ _ (by omega) hK rfl rfl))⟩
    have := ownsRow_putObj i2 (.deferred none) hK rfl
    rw [← hS]
    simpa [vals] using this
  case stop =>
    rintro D c pre W _ _ hh _
    exact hh.elim
end Go.Proofs.Ytgkpbmgbaonbhaa
