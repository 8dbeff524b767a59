/- Several texts in one. -/
import Derived.RangeFuncNested
import Derived.RangeFuncBound
import Derived.RangeFuncCalls
import Derived.RangeFuncLeaves
import Derived.RangeFuncBox
import Derived.Shelf.Abstract
import Derived.Shelf.RegionOpen
import Derived.OwnWalkIn
import Derived.TacticsInMore
import Derived.LoopNIn
import Derived.LoopIn
import Derived.Maps.AppendAt
import Derived.Sort.QuietIn
import Derived.Test.YtgoogihfggndpaaGreatDoorGB
import Derived.Test.YtgoogihfggndpaaGreatDoorGA
/- Walks: package watch: the rows of one kind, by an iterator: each, Sum, Runs. -/
namespace Go.Proofs.YtgoogihfggndpaaGreatDoor
set_option linter.unusedVariables false
set_option linter.unusedSimpArgs false
open Go.RowKit Go.Shelf
attribute [local go_sem] Oper.semAt_some

/-- What a row is as a value. -/
def runV (r : Nat × Nat × Nat) : Value := .agg #[.int .i64 (4 * r.1), .int .i64 (4 * r.2.1), .int .i64 r.2.2]

/-- What is known of a row. -/
def Rb (r : Nat × Nat × Nat) : Prop := r.1 ≤ 262144 ∧ r.2.1 ≤ 262144 ∧ r.2.2 ≤ 8

/-- What a round of the loop over rows keeps. -/
def Kept (L : List Nat) (W W' : World) : Prop := ∀ k ∈ L, W'.heap[k]? = W.heap[k]?
theorem Kept.t {L : List Nat} {A B C : World} (h : Kept L A B) (k : Kept L B C) : Kept L A C := fun i hi => (k i hi).trans (h i hi)
theorem Kept.b {L : List Nat} {n : Nat} (hL : ∀ k ∈ L, k < n) (W : World) (l : Nat) (o o' : Obj) (hl : n ≤ l) (_ : W.heap[l]? = some o) (_ : o.isCells = false) (_ : o.isWalk = false) : Kept L W (W.putObj l o') :=
  fun k hk => World.putObj_heap_other (by have := hL k hk; omega)
theorem Kept.blk {L : List Nat} {W W' : World} (h : Kept L W W') {g : Nat} {t : TypeId} {cs : Array Value} (hb : Blk W g t cs) (hg : g ∈ L) : Blk W' g t cs := (h g hg).trans hb
theorem Kept.isW {L : List Nat} {W W' : World} (h : Kept L W W') {p b : Nat} {ks : List Nat} {lk ft : Int} (hw : IsW W p b ks lk ft) (hp : p ∈ L) (hb : b ∈ L) : IsW W' p b ks lk ft :=
  ⟨h.blk hw.st hp, h.blk hw.row hb, hw.len, hw.le⟩

set_option maxRecDepth 100000 in
set_option maxHeartbeats 2000000 in
theorem each1_in (n : Nat) (hn : 1 ≤ n) (l Bn p b : Nat) (ks : List Nat) (lk ft : Int) (J Jx : List (Nat × Nat × Nat) → World → Prop)
    (hY : ∀ pre x W, Rb x → J pre W → pre.length < ks.length → YieldAt Fence.wide (n - 1) Tryz.prog l #[runV x] W fun e W' =>
      (e = .returned (.bool true) ∧ J (pre ++ [x]) W' ∧ Kept [p, b, Bn] W W') ∨ (e = .returned (.bool false) ∧ Jx (pre ++ [x]) W'))
    (W : World) (hJab : AbidesFrom W.heap.size J) (hBn : Blk W Bn 97 #[.pointer (some ⟨p, 0, none⟩)]) (hW : IsW W p b ks lk ft) (h0 : J [] W) :
    CallsIn Fence.wide n Tryz.prog 243 #[.func (.yield l) #[] #[], .pointer (some ⟨Bn, 0, none⟩)] W fun e W' => (∃ v, e = .returned v) ∧
      ((∃ ys, ys = runs ks ∧ J ys W') ∨ (∃ pre, True ∧ Jx pre W')) := by
  refine callsIn_of_wp Tryz.func243 rfl trivial ?_ rfl
  simp only [Tryz.ntmps243, List.size_toArray, List.length_cons, List.length_nil, Nat.reduceAdd, Nat.reduceSub, Array.replicate_succ, Array.replicate_zero, List.push_toArray, List.append_toArray, List.nil_append, List.cons_append]
  have hlen := hW.len
  gi_wp2
  gi_loopw [3, 4] (fun v _ wr => ∃ f : Nat, f ≤ ks.length ∧ v = .int .i64 f ∧ Kept [p, b, Bn] W wr ∧ ∃ pre, runs ks = pre ++ runsFrom ks f ∧ pre.length ≤ f ∧ J pre wr)
    (fun v _ _ => ks.length - (intOf v).toNat)
  case atStart =>
    exact ⟨0, Nat.zero_le _, rfl, fun _ _ => rfl, [], rfl, Nat.le_refl _, h0⟩
  case round =>
    obtain ⟨f, hf, rfl, hk, pre, hpre, hpl, hJ⟩ := hrel
    have hJd : ∀ k, J pre (wr.drewN k) := fun k => hJab pre wr (wr.drewN k) none hJ ⟨rfl, rfl, rfl, Nat.le_refl _, fun _ _ _ => rfl⟩ (fun r e => by cases e)
    have hB1 := (hk.blk hBn (by simp)).cell 0
    have hW1 := hk.isW hW (by simp) (by simp)
    have hS1 := hW1.st.cell 0
    by_cases hlt : f < ks.length
    · have hcf := hW1.row.cell f
      rw [bytes_get _ _ hlt] at hcf
      generalize hkf : ks[f]?.getD 0 = kf at hcf
      have KF := Lib.hid hkf
      have hkf8 : (kf : Int) ≤ 8 := by
        rw [← hkf, List.getElem?_eq_getElem hlt]
        have := hW.le ks[f] (List.getElem_mem _)
        simp; omega
      clear hkf
      gi_wp2
      gi_loopw [4] (fun v w2 => ∃ u : Nat, f ≤ u ∧ u ≤ ks.length ∧ v = .int .i64 u ∧ (∃ m, w2 = wr.drewN m) ∧ ∀ i, f ≤ i → i < u → ks[i]?.getD 0 = kf) (fun v _ => ks.length - (intOf v).toNat)
      case atStart => exact ⟨f, Nat.le_refl _, hf, rfl, ⟨0, rfl⟩, fun i h1 h2 => absurd h1 (by omega)⟩
      case round =>
        obtain ⟨u, hfu, hul, rfl, ⟨m, rfl⟩, hall⟩ := hrel
        have HA := Lib.hid hall
        clear hall
        by_cases hlt2 : u < ks.length
        · have hcu := hW1.row.cell u
          rw [bytes_get _ _ hlt2] at hcu
          have hd : decide ((u : Nat) < ks.length) = true := by simpa using hlt2
          have hd1 : (0 : Int) ≤ u := by omega
          have hd2 : (u : Int) < ks.length := by omega
          have hd3 : (0 : Int) ≤ f := by omega
          have hd4 : (f : Int) < ks.length := by omega
          generalize hku : ks[u]?.getD 0 = ku at hcu
          have KU := Lib.hid hku
          clear hku
          by_cases heq : ku = kf
          · subst heq
            have hq : ((ku : Int) == ku) = true := by simp
            gi_wp2
            gi_quiet (fail)
            gi_wp2
            go_roundw
            case rel => exact ⟨u + 1, by omega, by omega, by go_num, ⟨_, rfl⟩, fun i h1 h2 => by
              by_cases hiu : i < u
              · exact HA.out i h1 hiu
              · rw [show i = u by omega]; exact KU.out⟩
            case measure => simp [intOf]; omega
          · have hq : ((ku : Int) == kf) = false := by simp; omega
            have hend : runEnd ks f = u := runEnd_eq ks f u hfu hul (fun i h1 h2 => by rw [HA.out i h1 h2, KF.out]) (.inr (by rw [KU.out, KF.out]; exact heq))
            have hfu2 : f < u := by have := runEnd_lt ks f hlt; omega
            have HE := Lib.hid hend
            clear hend heq
            gi_wp2
            gi_quiet (fail)
            rename_i nq
            obtain ⟨fn, tmps, assign, body, hy, hR⟩ := hY pre (f, u - f, kf) (wr.drewN (m + nq)) ⟨by simp only; omega, by simp only; omega, by simp only; omega⟩ (hJd _) (by omega)
            dsimp only [runV] at hy
            rw [show ((u - f : Nat) : Int) = u - f by omega] at hy
            gi_wp2
            refine hR.mono ?_
            rintro e W3 (⟨rfl, hJ3, hk3⟩ | ⟨rfl, hJx3⟩)
            · gi_wp2
              go_roundw
              case rel => exact ⟨u, hul, rfl, (hk.t hk3), _, by rw [hpre, runsFrom_step ks f hlt, HE.out, KF.out, List.append_assoc]; rfl, by simp; omega, hJ3⟩
              case measure => simp [intOf]; omega
            · gi_wp2
              refine bodyPost_ret (results_none rfl _ _ _) rfl ?_
              exact ⟨⟨_, rfl⟩, .inr ⟨_, trivial, hJx3⟩⟩
        · have hd : decide ((u : Nat) < ks.length) = false := by simpa using hlt2
          have hue : u = ks.length := by omega
          have hend : runEnd ks f = u := runEnd_eq ks f u hfu hul (fun i h1 h2 => by rw [HA.out i h1 h2, KF.out]) (.inl hue)
          have hfu2 : f < u := by have := runEnd_lt ks f hlt; omega
          have HE := Lib.hid hend
          clear hend hue
          gi_wp2
          gi_quiet (fail)
          rename_i nq
          obtain ⟨fn, tmps, assign, body, hy, hR⟩ := hY pre (f, u - f, kf) (wr.drewN (m + nq)) ⟨by simp only; omega, by simp only; omega, by simp only; omega⟩ (hJd _) (by omega)
          dsimp only [runV] at hy
          rw [show ((u - f : Nat) : Int) = u - f by omega] at hy
          gi_wp2
          refine hR.mono ?_
          rintro e W3 (⟨rfl, hJ3, hk3⟩ | ⟨rfl, hJx3⟩)
          · gi_wp2
            go_roundw
            case rel => exact ⟨u, hul, rfl, (hk.t hk3), _, by rw [hpre, runsFrom_step ks f hlt, HE.out, KF.out, List.append_assoc]; rfl, by simp; omega, hJ3⟩
            case measure => simp [intOf]; omega
          · gi_wp2
            refine bodyPost_ret (results_none rfl _ _ _) rfl ?_
            exact ⟨⟨_, rfl⟩, .inr ⟨_, trivial, hJx3⟩⟩
    · gi_wp2
      go_end0
      exact ⟨⟨_, rfl⟩, .inl ⟨_, rfl, by rw [hpre, runsFrom_done ks f (by omega), List.append_nil]; exact hJ⟩⟩
end Go.Proofs.YtgoogihfggndpaaGreatDoor

/- Walks: package watch: Sum, Runs. -/
namespace Go.Proofs.YtgoogihfggndpaaGreatDoor
set_option linter.unusedVariables false
set_option linter.unusedSimpArgs false
open Go.RowKit Go.Shelf
attribute [local go_sem] Oper.semAt_some

theorem each_in (n : Nat) (a : Option Addr) (w : World) :
    CallsIn Fence.wide n Tryz.prog 192 #[.pointer a] w fun e w' => e = .returned (.func (.func 243) #[] #[.pointer (some ⟨w.heap.size, 0, none⟩)]) ∧ w' = w.alloc (.cells #[.pointer a] 97) := by
  refine callsIn_of_wp Tryz.func192 rfl trivial ?_ rfl
  simp only [Tryz.ntmps192, List.size_toArray, List.length_cons, List.length_nil, Nat.reduceAdd, Nat.reduceSub, Array.replicate_succ, Array.replicate_zero, List.push_toArray, List.append_toArray, List.nil_append, List.cons_append]
  gi_wp2
  go_ret
  exact ⟨rfl, rfl⟩

abbrev RunT := { r : Nat × Nat × Nat // Rb r }
def vals (l : List RunT) : List (Nat × Nat × Nat) := l.map (·.1)

theorem each_stops (n : Nat) (hn : 1 ≤ n) (Bn p b : Nat) (ks : List Nat) (lk ft : Int) (w : World) (hBn : Blk w Bn 97 #[.pointer (some ⟨p, 0, none⟩)]) (hW : IsW w p b ks lk ft) :
    SeqStopsK Fence.wide n Tryz.prog 243 #[.pointer (some ⟨Bn, 0, none⟩)] (fun r : RunT => #[runV r.1]) (Kept [p, b, Bn]) (fun ys => vals ys = runs ks) (fun _ => True) ks.length w := fun l J Jx W hb hJ _ hY h0 => by
  refine (each1_in n hn l Bn p b ks lk ft (fun pre W => ∃ pre', vals pre' = pre ∧ J pre' W) (fun pre W => ∃ pre', vals pre' = pre ∧ Jx pre' W) ?_ W ?_ (hBn.below hb hBn.lt) ⟨hW.st.below hb hW.st.lt, hW.row.below hb hW.row.lt, hW.len, hW.le⟩ ⟨[], rfl, h0⟩).mono ?_
  · rintro pre x W hx ⟨pre', rfl, hJ'⟩ hlen
    obtain ⟨fn, tmps, assign, body, hy, hR⟩ := hY pre' ⟨x, hx⟩ W hJ' (by simpa [vals] using hlen)
    refine ⟨fn, tmps, assign, body, hy, hR.mono ?_⟩
    rintro e W' (⟨he, h1, h2⟩ | ⟨he, h1⟩)
    · exact .inl ⟨he, ⟨_, by simp [vals], h1⟩, h2⟩
    · exact .inr ⟨he, _, by simp [vals], h1⟩
  · rintro s A B row ⟨pre', hp, hs⟩ hg hr
    exact ⟨pre', hp, hJ pre' A B row hs hg hr⟩
  · rintro e W' ⟨he, ⟨ys, rfl, pre', hp, h1⟩ | ⟨pre, _, pre', hp, h1⟩⟩
    · exact ⟨he, .inl ⟨pre', hp, h1⟩⟩
    · exact ⟨he, .inr ⟨pre', trivial, h1⟩⟩

theorem blk_own {β : Type} (g : Nat) (t : TypeId) (f : β → Array Value) : Own (fun s W => Blk W g t (f s)) := fun s X Y row hs hg hrow => by
  refine (hg.block g hs.lt (fun e' => ?_)).trans hs
  obtain ⟨o, ho, hc⟩ := hrow g e'.symm
  rw [show X.heap[g]? = _ from hs] at ho; cases ho; cases hc

theorem kept_own {β : Type} {B : Nat} {L : List Nat} {W0 : World} (hz : ∀ k ∈ L, k < B) (hB : B ≤ W0.heap.size) : OwnFrom B (fun (_ : β) W => W0.heap.size ≤ W.heap.size ∧ Kept L W0 W) :=
  fun _ A C row hs hg hr => ⟨Nat.le_trans hs.1 hg.size, fun k hk => (hg.block k (by have := hz k hk; have := hs.1; omega) (fun e => by have := (hr k e.symm).1; have := hz k hk; omega)).trans (hs.2 k hk)⟩

theorem info_run : (Tryz.prog.info? 84).map (fun i => (i.zero, i.size, i.bytes)) = some (some (.agg #[.int .i64 0, .int .i64 0, .int .i64 0]), 3, 24) := by kernel_rfl

/-- The rows as cells. -/
def runCells (l : List (Nat × Nat × Nat)) : List Value := l.flatMap fun r => [.int .i64 (4 * r.1), .int .i64 (4 * r.2.1), .int .i64 r.2.2]
theorem runCells_snoc (l : List (Nat × Nat × Nat)) (r : Nat × Nat × Nat) : runCells (l ++ [r]) = runCells l ++ [.int .i64 (4 * r.1), .int .i64 (4 * r.2.1), .int .i64 r.2.2] := by simp [runCells]

theorem cells_new3 (w : World) (a b c : Value) (t : TypeId) : ∀ j u, [a, b, c][j]? = some u → (w.alloc (.cells #[a, b, c] t)).cell? ((⟨w.heap.size, 0, none⟩ : Addr).add j) = some u := by
  intro j u hj
  have h := (Blk.new w t #[a, b, c]).cell j
  have : (⟨w.heap.size, 0, none⟩ : Addr).add j = ⟨w.heap.size, j, none⟩ := by unfold Addr.add; split <;> simp_all
  rw [this, h]
  simpa using hj

set_option maxRecDepth 100000 in
set_option maxHeartbeats 2000000 in
theorem runs_in (n : Nat) (hn : 4 ≤ n) (w : World) (p b : Nat) (ks : List Nat) (lk ft : Int) (h : IsW w p b ks lk ft) :
    CallsIn Fence.wide n Tryz.prog 125 #[.pointer (some ⟨p, 0, none⟩)] w fun e w' => ∃ v, e = .returned v ∧ w'.ownsRow w.heap.size 84 3 v (runs ks).length (runCells (runs ks)) ∧ Fr [] w w' := by
  have h1 : 1 ≤ n := by omega
  obtain ⟨i0, hi, hz0, hz1, hz2⟩ := info_parts info_run
  refine callsIn_of_wp_marks Tryz.func125 rfl trivial ?_ rfl
  simp only [Tryz.ntmps125, List.size_toArray, List.length_cons, List.length_nil, Nat.reduceAdd, Nat.reduceSub, Array.replicate_succ, Array.replicate_zero, List.push_toArray, List.append_toArray, List.nil_append, List.cons_append]
  gi_wp2_with (first | (refine ⟨trivial, ?_⟩; gi_at_call 186; refine (callsIn_wide.2 (none_some _ p b ks.length ks.length (h.st.cell 0))).mono ?_; rintro e w' ⟨rfl, rfl⟩) | (refine ⟨trivial, ?_⟩; gi_at_call 192; refine (each_in _ _ _).mono ?_; rintro e w' ⟨rfl, rfl⟩))
  obtain ⟨W0, hW0⟩ : ∃ W0, (w.alloc (.cells #[.slice none 0 0] 37)).alloc (.cells #[.pointer (some ⟨p, 0, none⟩)] 97) = W0 := ⟨_, rfl⟩
  have bL : Boxed W0 w.heap.size 37 (.slice none 0 0) := by rw [← hW0]; exact (Boxed.new w _ _).alloc _
  have bB : Blk W0 (w.heap.size + 1) 97 #[.pointer (some ⟨p, 0, none⟩)] := by rw [← hW0]; have := Blk.new (w.alloc (.cells #[.slice none 0 0] 37)) 97 #[.pointer (some ⟨p, 0, none⟩)]; rwa [World.size_alloc] at this
  have fr0 : Below w.heap.size w W0 := by rw [← hW0]; exact ((Below.refl _ w).alloc (Nat.le_refl _) _).alloc (by simp) _
  have hz0' : W0.heap.size = w.heap.size + 2 := by rw [← hW0]; simp
  have hw0 : IsW W0 p b ks lk ft := ⟨h.st.below fr0 h.st.lt, h.row.below fr0 h.row.lt, h.len, h.le⟩
  have hpl := h.st.lt
  have hbl := h.row.lt
  have hkl := h.len
  rw [hW0]
  clear hW0
  refine wpIn_rangeFunc_ownH rfl h1 (gf := 243) (lb := #[.pointer (some ⟨w.heap.size + 1, 0, none⟩)]) rfl trivial (enters_of Tryz.func243 (by kernel_rfl) rfl)
    (each_stops (n - 1) (by omega) (w.heap.size + 1) p b ks lk ft W0 bB hw0) Kept.t (Kept.b (n := W0.heap.size) (by simp; omega)) (Below.refl _ _) (fun _ => rfl)
    (fun pre W => (∃ v, Boxed W w.heap.size 37 v ∧ W.ownsRow w.heap.size 84 3 v pre.length (runCells (vals pre)) ∧ True) ∧ Below w.heap.size w W ∧ W0.heap.size ≤ W.heap.size ∧ Kept [p, b, w.heap.size + 1] W0 W)
    (fun _ _ _ => False)
    ?hI (fun _ _ _ _ _ hs _ _ => hs) ?h0
    (fun x a' W => ∃ Bx, w.heap.size + 1 < Bx ∧ Blk W Bx 84 #[.int .i64 (4 * x.1.1), .int .i64 (4 * x.1.2.1), .int .i64 x.1.2.2] ∧
      a' = { tmps := #[.pointer (some ⟨p, 0, none⟩), undef, .slice none 0 0, .pointer (some ⟨w.heap.size, 0, none⟩), .pointer (some ⟨Bx, 0, none⟩), .pointer (some ⟨p, 0, none⟩), .bool false, .pointer (some ⟨p, 0, none⟩), .func (.func 243) #[] #[.pointer (some ⟨w.heap.size + 1, 0, none⟩)], runV x.1, undef, undef, undef, undef, undef], defers := [] })
    ?hAx ?assign ?body ?done ?stop
  case hI =>
    exact OwnFrom.and (Own.from (holdsRow_own w.heap.size w.heap.size 37 84 3 (fun pre : List RunT => pre.length) (fun pre => runCells (vals pre)) (fun _ _ => True)) _)
      (OwnFrom.and (ownFrom_below (Nat.le_refl _) (by omega)) (kept_own (by simp; omega) (Nat.le_refl _)))
  case h0 => exact ⟨⟨_, bL, World.ownsRow_nil _ _ _ _, trivial⟩, fr0, Nat.le_refl _, fun _ _ => rfl⟩
  case hAx =>
    rintro x a' s A B row ⟨Bx, h1, h2, h3⟩ hg hr
    exact ⟨Bx, h1, blk_own Bx _ (fun _ : Unit => _) () A B row h2 hg (fun r e => (hr r e).2), h3⟩
  case assign =>
    rintro l pre x W K ⟨⟨v, i1, i2, _⟩, i3, i4, i5⟩ hK
    simp only [runV]
    gi_wp2
    exact hK _ _ ((KeepsOthers.alloc _ _).from _) (fun g hg => Below.heap_alloc W _ g (by simp at hg; omega)) ⟨⟨v, i1.alloc _, i2.alloc _, trivial⟩, i3.alloc i3.size _, by simp; omega, i5.t (fun g hg => Below.heap_alloc W _ g (by simp at hg; omega))⟩
      ⟨W.heap.size, by omega, Blk.new W _ _, rfl⟩
  case body =>
    rintro l pre x a' W hl ⟨r, hr⟩ ⟨⟨v, i1, i2, _⟩, i3, i4, i5⟩ ⟨Bx, hBx, bX, rfl⟩ hlt
    have hX0 := bX.cell 0
    have hX1 := bX.cell 1
    have hX2 := bX.cell 2
    have hc1 := i1.cell
    have hlw := i3.size
    gi_wp2_with (gi_at_builtin; refine wpListIn_append_own _ rfl _ _ 37 rfl w.heap.size 84 i0 (.agg #[.int .i64 0, .int .i64 0, .int .i64 0]) 3 24 Tryz.underlying37 hi hz0 hz1 hz2 rfl (by decide) _ _ _ rfl (i2.alloc _) ⟨W.heap.size, 0, none⟩ 1 1 [.int .i64 (4 * x.1.1), .int .i64 (4 * x.1.2.1), .int .i64 x.1.2.2] rfl rfl (cells_new3 _ _ _ _ _) (by simp [Value.oneCell']) (by unfold maxLen; omega) (by omega) (by simp; omega) ?_; intro v' w1 hown' hgrow _; obtain ⟨g', cap', rfl⟩ := ownsRow_succ hown'; obtain ⟨hv1, hv2, hr2, hk2, hb2⟩ := i1.appended (by decide) i2 hlw (Nat.le_refl _) hown' hgrow; have hc1' := hv1.cell; have hf1' := hv1.frozen)
    have hKp : Kept [p, b, w.heap.size + 1] W (w1.setCell ⟨w.heap.size, 0, none⟩ (.slice (some ⟨g', 0, none⟩) (pre.length + 1) cap')) := by
      have hBW : Blk W (w.heap.size + 1) 97 #[.pointer (some ⟨p, 0, none⟩)] := i5.blk bB (by simp)
      have hnr := hBW.lt
      intro g hg
      have hgl : g < W.heap.size := by simp at hg; omega
      have hgne : some g ≠ v.ownBlock := by
        simp only [List.mem_cons, List.not_mem_nil, or_false] at hg
        rcases hg with rfl | rfl | rfl
        · intro e; rcases i2.2 with ⟨rfl, _⟩ | ⟨g2, _, _, rfl, hle, _⟩
          · simp [Value.ownBlock] at e
          · simp [Value.ownBlock] at e; omega
        · intro e; rcases i2.2 with ⟨rfl, _⟩ | ⟨g2, _, _, rfl, hle, _⟩
          · simp [Value.ownBlock] at e
          · simp [Value.ownBlock] at e; omega
        · exact Boxed.not_row (t := 97) (e := 84) hBW (by decide) i2
      rw [Below.heap_setCell _ _ _ _ (by simp at hg ⊢; omega)]
      exact (hgrow.block g (by simp; omega) hgne).trans (Below.heap_alloc _ _ _ hgl)
    exact ⟨hk2.from _, hKp, ⟨⟨_, hv2, by simpa [vals, runCells_snoc] using hr2, trivial⟩, i3.trans hb2, by have := hb2.size; omega, i5.t hKp⟩⟩
  case done =>
    rintro D ys W hD hS ⟨⟨v, i1, i2, _⟩, i3, i4, i5⟩ hK
    have hc := i1.cell
    gi_wp2
    refine ⟨by simp, .inl ⟨_, _, rfl, run_takeDeferred hK, ?_⟩⟩
    refine ⟨_, results_tmp rfl _ _ _, v, rfl, ?_, Fr.of_below (i3.trans (belowK_b (w := w) (Nat.le_refl _) W D _ _ (by omega) hK rfl rfl))⟩
    have := ownsRow_putObj i2 (.deferred none) hK rfl
    rw [← hS]
    simpa [vals] using this
  case stop =>
    rintro D c pre W _ _ hh _
    exact hh.elim
end Go.Proofs.YtgoogihfggndpaaGreatDoor
