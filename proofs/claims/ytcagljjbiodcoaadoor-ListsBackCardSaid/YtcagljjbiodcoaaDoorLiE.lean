/- Package lists: the iterator over a list's slabs. -/
import Derived.Test.YtcagljjbiodcoaaDoorLi
import Derived.Test.YtcagljjbiodcoaaDoorLiP
import Derived.Test.YtcagljjbiodcoaaDoorRng
import Derived.RangeFuncBound
import Derived.RangeFuncCalls
import Derived.RangeFuncLeaves
import Derived.RangeFuncBox
import Derived.Shelf.Abstract
import Derived.Shelf.RegionOpen
import Derived.OwnWalkIn
import Derived.TacticsInMore
import Derived.LoopNIn
import Derived.LoopIn
import Derived.Maps.AppendAt
import Derived.Sort.QuietIn
namespace Go.Proofs.YtcagljjbiodcoaaDoor
set_option linter.unusedVariables false
open Go.RowKit Go.Shelf
attribute [local go_sem] Oper.semAt_some

/-- What the iterator must find at each step: the memory, its two variables. -/
structure EachM (W : World) (q : MH) (t : TM) (Bm Bc : Nat) (c : Nat) : Prop where
  m : IsT W q t
  bm : Blk W Bm 30 #[.pointer (some ⟨q.m, 0, none⟩)]
  bc : Blk W Bc 3 #[.int .i64 c]
/-- What its steps do: they count looks. -/
def EachS (q : MH) (t : TM) (A B : World) : Prop := Fr q.blocks A B ∧ IsT B q t

set_option maxRecDepth 100000 in
set_option maxHeartbeats 2000000 in
theorem leach1 (n : Nat) (hn : 1 ≤ n) (q : MH) (t : TM) (Bm Bc c : Nat) (hc : c ≤ 9) (l : List Nat) (hl : Lk t 0 (t.rt (3 + c)) l) (hso : l.Pairwise (· < ·)) (hBm : Bm ∉ q.blocks) (hBc : Bc ∉ q.blocks) :
    RngIt (α := Nat) Fence.wide n Tryd.prog 109 #[.pointer (some ⟨Bm, 0, none⟩), .pointer (some ⟨Bc, 0, none⟩)] (fun x => #[.int .i64 x]) (fun W => EachM W q t Bm Bc c) (EachS q t) (fun pre x => ∃ rest, l = pre ++ x :: rest) (fun xs => xs = l) (fun _ => True) := by
  intro lo J Jx W hJM hJS hXS hY h0
  have hM0 := hJM _ _ h0
  refine callsIn_of_wp Tryd.func109 rfl trivial ?_ rfl
  simp only [Tryd.ntmps109, List.size_toArray, List.length_cons, List.length_nil, Nat.reduceAdd, Nat.reduceSub, Array.replicate_succ, Array.replicate_zero, List.push_toArray, List.append_toArray, List.nil_append, List.cons_append]
  have c1 := hM0.bm.cell 0
  have c2 := hM0.bc.cell 0
  simp at c1 c2
  have hfi := fun W hW => lifirst (w := W) (q := q) (t := t) hW c hc c rfl
  have HJM := Lib.hid hJM
  have HJS := Lib.hid hJS
  have HY := Lib.hid hY
  have HL := Lib.hid hl
  have HSO := Lib.hid hso
  have ha64 := (tm_small hM0.m.ok).1
  have hpa := fun W hW i hi => lipart (w := W) (q := q) (t := t) hW i 3 hi (by decide) 8 4 rfl rfl
  have H0 := Lib.hid h0
  have HM0 := Lib.hid hM0
  clear hJM hJS hXS hY hl hso h0 hM0
  generalize t.rt (3 + c) = s0 at *
  gi_wp2_with (first | (refine ⟨trivial, ?_⟩; gi_at_call 73; refine (callsIn_wide.2 (hfi _ HM0.out.m)).mono ?_; rintro e W1 ⟨rfl, h1, f1⟩))
  have hJ1 := Lib.hid (HJS.out _ _ _ H0.out ⟨f1, h1⟩)
  clear h1 f1 c1 c2 H0 hfi
  gi_loopw [4] (fun v wr => ∃ pre rest p s, l = pre ++ rest ∧ v = .int .i64 (s : Nat) ∧ Hid (Lk t p s rest) ∧ Hid (J pre wr)) (fun v _ => if (intOf v).toNat = 0 then 0 else t.a + 1 - (intOf v).toNat)
  case atStart => exact ⟨[], l, 0, s0, rfl, rfl, HL, hJ1⟩
  case round =>
    clear hJ1
    obtain ⟨pre, rest, p, s, hpr, rfl, hlk, hJ⟩ := hrel
    have hM := HJM.out _ _ hJ.out
    have c1 := hM.bm.cell 0
    have c2 := hM.bc.cell 0
    simp at c1 c2
    rcases rest with _ | ⟨x, rest⟩
    · have hs : s = 0 := hlk.out
      subst hs
      gi_wp2
      all_goals
        refine ⟨fun f h => (by cases h), ?_⟩
        gi_wp2
        go_end0
        exact ⟨⟨_, rfl⟩, .inl ⟨_, by rw [hpr, List.append_nil], hJ.out⟩⟩
    · obtain ⟨hs, hxa, hxp, hlk2⟩ := hlk.out
      subst hs
      have g1 : (0 : Int) < ((x + 1 : Nat) : Int) := by omega
      have g2 : IntKind.i64.wrap (((x + 1 : Nat) : Int) - 1) = x := by rw [IntWalk.i64_in _ (by omega)]; omega
      obtain ⟨fn, tmps, assign, body, hy, hR⟩ := HY.out pre x wr ⟨rest, hpr⟩ hJ.out
      have hxs : ∀ y r, rest = y :: r → x < y := fun y r e => by
        have h1 := HSO.out
        rw [hpr, e] at h1
        exact (List.pairwise_cons.1 (List.pairwise_append.1 h1).2.1).1 y (List.mem_cons_self ..)
      have HXS := Lib.hid hxs
      have HLK := Lib.hid hlk2
      have HPR := Lib.hid hpr
      clear hxs hlk2 hpr hlk
      gi_wp2
      refine hR.mono ?_
      rintro e W3 (⟨rfl, hJ3⟩ | ⟨rfl, hJx3⟩)
      · have hM3 := HJM.out _ _ hJ3
        have c3 := hM3.bm.cell 0
        simp at c3
        have HM3 := Lib.hid hM3
        have HJ3 := Lib.hid hJ3
        clear hM3 hJ3 c1 c2 hM
        gi_wp2_with (first | (refine ⟨trivial, ?_⟩; gi_at_call 76; refine (callsIn_wide.2 (hpa _ HM3.out.m x hxa)).mono ?_; rintro e W4 ⟨rfl, h4, f4⟩))
        refine ⟨⟨pre ++ [x], rest, x + 1, t.hd x 3, by rw [HPR.out]; simp, rfl, HLK, Lib.hid (HJS.out _ _ _ HJ3.out ⟨f4, h4⟩)⟩, ?_⟩
        have hlk3 := HLK.out
        rcases rest with _ | ⟨y, r⟩
        · rw [show t.hd x 3 = 0 from hlk3]
          simp [intOf]
          omega
        · obtain ⟨hs3, hy, _⟩ := hlk3
          have := HXS.out y r rfl
          rw [hs3]
          simp [intOf]
          omega
      · gi_wp2
        go_end0
        exact ⟨⟨_, rfl⟩, .inr ⟨_, trivial, hJx3⟩⟩
end Go.Proofs.YtcagljjbiodcoaaDoor
