/- Walks: package watch: the rows of one kind, by an iterator: each, Sum, Runs. -/
import Derived.RangeFuncNested
import Derived.RangeFuncBound
import Derived.RangeFuncCalls
import Derived.RangeFuncLeaves
import Derived.RangeFuncBox
import Derived.Shelf.Abstract
import Derived.Shelf.RegionOpen
import Derived.OwnWalkIn
import Derived.TacticsInMore
import Derived.LoopNIn
import Derived.LoopIn
import Derived.Maps.AppendAt
import Derived.Sort.QuietIn
import Derived.Test.YtgkpbmgbaonbhaaW11b
import Derived.Test.YtgkpbmgbaonbhaaRuns
namespace Go.Proofs.Ytgkpbmgbaonbhaa
set_option linter.unusedVariables false
open Go.RowKit Go.Shelf
attribute [local go_sem] Oper.semAt_some

/-- What a row is as a value. -/
def runV (r : Nat × Nat × Nat) : Value := .agg #[.int .i64 (4 * r.1), .int .i64 (4 * r.2.1), .int .i64 r.2.2]

/-- What is known of a row. -/
def Rb (r : Nat × Nat × Nat) : Prop := r.1 ≤ 262144 ∧ r.2.1 ≤ 262144 ∧ r.2.2 ≤ 8

/-- What a round of the loop over rows keeps. -/
def Kept (L : List Nat) (W W' : World) : Prop := ∀ k ∈ L, W'.heap[k]? = W.heap[k]?
theorem Kept.t {L : List Nat} {A B C : World} (h : Kept L A B) (k : Kept L B C) : Kept L A C := fun i hi => (k i hi).trans (h i hi)
theorem Kept.b {L : List Nat} {n : Nat} (hL : ∀ k ∈ L, k < n) (W : World) (l : Nat) (o o' : Obj) (hl : n ≤ l) (_ : W.heap[l]? = some o) (_ : o.isCells = false) (_ : o.isWalk = false) : Kept L W (W.putObj l o') :=
  fun k hk => World.putObj_heap_other (by have := hL k hk; omega)
theorem Kept.blk {L : List Nat} {W W' : World} (h : Kept L W W') {g : Nat} {t : TypeId} {cs : Array Value} (hb : Blk W g t cs) (hg : g ∈ L) : Blk W' g t cs := (h g hg).trans hb
theorem Kept.isW {L : List Nat} {W W' : World} (h : Kept L W W') {p b : Nat} {ks : List Nat} {lk ft : Int} (hw : IsW W p b ks lk ft) (hp : p ∈ L) (hb : b ∈ L) : IsW W' p b ks lk ft :=
  ⟨h.blk hw.st hp, h.blk hw.row hb, hw.len, hw.le⟩

set_option maxRecDepth 100000 in
set_option maxHeartbeats 2000000 in
theorem each1_in (n : Nat) (hn : 1 ≤ n) (l Bn p b : Nat) (ks : List Nat) (lk ft : Int) (J Jx : List (Nat × Nat × Nat) → World → Prop)
    (hY : ∀ pre x W, Rb x → J pre W → pre.length < ks.length → YieldAt Fence.wide (n - 1) Try.prog l #[runV x] W fun e W' =>
      (e = .returned (.bool true) ∧ J (pre ++ [x]) W' ∧ Kept [p, b, Bn] W W') ∨ (e = .returned (.bool false) ∧ Jx (pre ++ [x]) W'))
    (W : World) (hJab : AbidesFrom W.heap.size J) (hBn : Blk W Bn 24 #[.pointer (some ⟨p, 0, none⟩)]) (hW : IsW W p b ks lk ft) (h0 : J [] W) :
    CallsIn Fence.wide n Try.prog 31 #[.func (.yield l) #[] #[], .pointer (some ⟨Bn, 0, none⟩)] W fun e W' => (∃ v, e = .returned v) ∧
      ((∃ ys, ys = runs ks ∧ J ys W') ∨ (∃ pre, True ∧ Jx pre W')) := by
  refine callsIn_of_wp Try.func31 rfl trivial ?_ rfl
  simp only [Try.ntmps31, List.size_toArray, List.length_cons, List.length_nil, Nat.reduceAdd, Nat.reduceSub, Array.replicate_succ, Array.replicate_zero, List.push_toArray, List.append_toArray, List.nil_append, List.cons_append]
  have hlen := hW.len
  gi_wp2
  gi_loopw [3, 4] (fun v _ wr => ∃ f : Nat, f ≤ ks.length ∧ v = .int .i64 f ∧ Kept [p, b, Bn] W wr ∧ ∃ pre, runs ks = pre ++ runsFrom ks f ∧ pre.length ≤ f ∧ J pre wr)
    (fun v _ _ => ks.length - (intOf v).toNat)
  case atStart =>
    exact ⟨0, Nat.zero_le _, rfl, fun _ _ => rfl, [], rfl, Nat.le_refl _, h0⟩
  case round =>
    obtain ⟨f, hf, rfl, hk, pre, hpre, hpl, hJ⟩ := hrel
    have hJd : ∀ k, J pre (wr.drewN k) := fun k => hJab pre wr (wr.drewN k) none hJ ⟨rfl, rfl, rfl, Nat.le_refl _, fun _ _ _ => rfl⟩ (fun r e => by cases e)
    have hB1 := (hk.blk hBn (by simp)).cell 0
    have hW1 := hk.isW hW (by simp) (by simp)
    have hS1 := hW1.st.cell 0
    by_cases hlt : f < ks.length
    · have hcf := hW1.row.cell f
      rw [bytes_get _ _ hlt] at hcf
      generalize hkf : ks[f]?.getD 0 = kf at hcf
      have KF := Lib.hid hkf
      have hkf8 : (kf : Int) ≤ 8 := by
        rw [← hkf, List.getElem?_eq_getElem hlt]
        have := hW.le ks[f] (List.getElem_mem _)
        simp; omega
      clear hkf
      gi_wp2
      gi_loopw [4] (fun v w2 => ∃ u : Nat, f ≤ u ∧ u ≤ ks.length ∧ v = .int .i64 u ∧ (∃ m, w2 = wr.drewN m) ∧ ∀ i, f ≤ i → i < u → ks[i]?.getD 0 = kf) (fun v _ => ks.length - (intOf v).toNat)
      case atStart => exact ⟨f, Nat.le_refl _, hf, rfl, ⟨0, rfl⟩, fun i h1 h2 => absurd h1 (by omega)⟩
      case round =>
        obtain ⟨u, hfu, hul, rfl, ⟨m, rfl⟩, hall⟩ := hrel
        have HA := Lib.hid hall
        clear hall
        by_cases hlt2 : u < ks.length
        · have hcu := hW1.row.cell u
          rw [bytes_get _ _ hlt2] at hcu
          have hd : decide ((u : Nat) < ks.length) = true := by simpa using hlt2
          have hd1 : (0 : Int) ≤ u := by omega
          have hd2 : (u : Int) < ks.length := by omega
          have hd3 : (0 : Int) ≤ f := by omega
          have hd4 : (f : Int) < ks.length := by omega
          generalize hku : ks[u]?.getD 0 = ku at hcu
          have KU := Lib.hid hku
          clear hku
          by_cases heq : ku = kf
          · subst heq
            have hq : ((ku : Int) == ku) = true := by simp
            gi_wp2
            gi_quiet (fail)
            gi_wp2
            go_roundw
            case rel => exact ⟨u + 1, by omega, by omega, by go_num, ⟨_, rfl⟩, fun i h1 h2 => by
              by_cases hiu : i < u
              · exact HA.out i h1 hiu
              · rw [show i = u by omega]; exact KU.out⟩
            case measure => simp [intOf]; omega
          · have hq : ((ku : Int) == kf) = false := by simp; omega
            have hend : runEnd ks f = u := runEnd_eq ks f u hfu hul (fun i h1 h2 => by rw [HA.out i h1 h2, KF.out]) (.inr (by rw [KU.out, KF.out]; exact heq))
            have hfu2 : f < u := by have := runEnd_lt ks f hlt; omega
            have HE := Lib.hid hend
            clear hend heq
            gi_wp2
            gi_quiet (fail)
            rename_i nq
            obtain ⟨fn, tmps, assign, body, hy, hR⟩ := hY pre (f, u - f, kf) (wr.drewN (m + nq)) ⟨by simp only; omega, by simp only; omega, by simp only; omega⟩ (hJd _) (by omega)
            dsimp only [runV] at hy
            rw [show ((u - f : Nat) : Int) = u - f by omega] at hy
            gi_wp2
            refine hR.mono ?_
            rintro e W3 (⟨rfl, hJ3, hk3⟩ | ⟨rfl, hJx3⟩)
            · gi_wp2
              go_roundw
              case rel => exact ⟨u, hul, rfl, (hk.t hk3), _, by rw [hpre, runsFrom_step ks f hlt, HE.out, KF.out, List.append_assoc]; rfl, by simp; omega, hJ3⟩
              case measure => simp [intOf]; omega
            · gi_wp2
              refine bodyPost_ret (results_none rfl _ _ _) rfl ?_
              exact ⟨⟨_, rfl⟩, .inr ⟨_, trivial, hJx3⟩⟩
        · have hd : decide ((u : Nat) < ks.length) = false := by simpa using hlt2
          have hue : u = ks.length := by omega
          have hend : runEnd ks f = u := runEnd_eq ks f u hfu hul (fun i h1 h2 => by rw [HA.out i h1 h2, KF.out]) (.inl hue)
          have hfu2 : f < u := by have := runEnd_lt ks f hlt; omega
          have HE := Lib.hid hend
          clear hend hue
          gi_wp2
          gi_quiet (fail)
          rename_i nq
          obtain ⟨fn, tmps, assign, body, hy, hR⟩ := hY pre (f, u - f, kf) (wr.drewN (m + nq)) ⟨by simp only; omega, by simp only; omega, by simp only; omega⟩ (hJd _) (by omega)
          dsimp only [runV] at hy
          rw [show ((u - f : Nat) : Int) = u - f by omega] at hy
          gi_wp2
          refine hR.mono ?_
          rintro e W3 (⟨rfl, hJ3, hk3⟩ | ⟨rfl, hJx3⟩)
          · gi_wp2
            go_roundw
            case rel => exact ⟨u, hul, rfl, (hk.t hk3), _, by rw [hpre, runsFrom_step ks f hlt, HE.out, KF.out, List.append_assoc]; rfl, by simp; omega, hJ3⟩
            case measure => simp [intOf]; omega
          · gi_wp2
            refine bodyPost_ret (results_none rfl _ _ _) rfl ?_
            exact ⟨⟨_, rfl⟩, .inr ⟨_, trivial, hJx3⟩⟩
    · gi_wp2
      go_end0
      exact ⟨⟨_, rfl⟩, .inl ⟨_, rfl, by rw [hpre, runsFrom_done ks f (by omega), List.append_nil]; exact hJ⟩⟩
end Go.Proofs.Ytgkpbmgbaonbhaa
