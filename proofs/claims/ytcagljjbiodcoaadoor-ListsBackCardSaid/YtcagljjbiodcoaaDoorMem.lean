/- Package memory: what a memory is; Load, Store, Kind, Mark, Faults. -/
import Derived.Test.YtcagljjbiodcoaaDoorWLook
import Derived.Test.YtcagljjbiodcoaaDoorArnP
import Derived.Test.YtcagljjbiodcoaaDoorLay
namespace Go.Proofs.YtcagljjbiodcoaaDoor
set_option linter.unusedVariables false
open Go.RowKit

/-- Where a memory's parts lie. -/
structure MH where
  m : Nat
  pw : Nat
  bw : Nat
  pa : Nat
  ga : Nat
  cap : Nat
/-- What a memory holds: its config, the kinds of its grains, its bytes, its faults. -/
structure MS where
  a : Nat
  s : Nat
  ks : List Nat
  l : List Nat
  ft : Int
def MH.blocks (q : MH) : List Nat := [q.m, q.pw, q.bw, q.pa, q.ga]
structure IsM (w : World) (q : MH) (z : MS) : Prop where
  st : Blk w q.m 94 #[.pointer (some ⟨q.pw, 0, none⟩), .pointer (some ⟨q.pa, 0, none⟩), .int .i64 z.a, .int .i64 z.s]
  wt : ∃ lk, IsW w q.pw q.bw z.ks lk z.ft
  ar : IsA w q.pa q.ga q.cap z.l
  ne : q.bw ≠ q.ga
  cfg : Cfg z.a z.s
  size : z.l.length = lsize z.a z.s
  grains : z.l.length = 4 * z.ks.length
section
variable {w w' : World} {q : MH} {z : MS}
theorem IsM.fr {S : List Nat} (h : IsM w q z) (hf : Fr S w w') (hS : ∀ k ∈ q.blocks, k ∉ S) : IsM w' q z := by
  simp only [MH.blocks, List.mem_cons, List.not_mem_nil, or_false, forall_eq_or_imp, forall_eq] at hS
  obtain ⟨h1, h2, h3, h4, h5⟩ := hS
  obtain ⟨lk, hw⟩ := h.wt
  exact ⟨h.st.fr hf h1, ⟨lk, hw.fr hf h2 h3⟩, h.ar.fr hf h4 h5, h.ne, h.cfg, h.size, h.grains⟩
theorem IsM.fr0 (h : IsM w q z) (hf : Fr [] w w') : IsM w' q z := h.fr hf (by simp)
theorem IsM.lt (h : IsM w q z) : ∀ k ∈ q.blocks, k < w.heap.size := by
  obtain ⟨lk, hw⟩ := h.wt
  simp only [MH.blocks, List.mem_cons, List.not_mem_nil, or_false, forall_eq_or_imp, forall_eq]
  exact ⟨h.st.lt, hw.st.lt, hw.row.lt, h.ar.st.lt, h.ar.row.lt⟩
theorem IsM.nes (h : IsM w q z) : q.m ≠ q.pw ∧ q.m ≠ q.bw ∧ q.m ≠ q.pa ∧ q.m ≠ q.ga ∧ q.pw ≠ q.bw ∧ q.pw ≠ q.pa ∧ q.pw ≠ q.ga ∧ q.bw ≠ q.pa ∧ q.bw ≠ q.ga ∧ q.pa ≠ q.ga := by
  obtain ⟨lk, hw⟩ := h.wt
  obtain ⟨cur, hr, _⟩ := h.ar.row
  exact ⟨h.st.ne_ hw.st (by decide), h.st.ne_ hw.row (by decide), h.st.ne_ h.ar.st (by decide), h.st.ne_ hr (by decide), hw.st.ne_ hw.row (by decide), hw.st.ne_ h.ar.st (by decide), hw.st.ne_ hr (by decide), hw.row.ne_ h.ar.st (by decide), h.ne, h.ar.st.ne_ hr (by decide)⟩
end

theorem mnone_some (w : World) (m pa : Nat) (h : w.cell? ⟨m, 1, none⟩ = some (.pointer (some ⟨pa, 0, none⟩))) :
    Calls Tryd.prog 55 #[.pointer (some ⟨m, 0, none⟩)] w fun e w' => e = .returned (.bool false) ∧ w' = w := by
  go_enter Tryd.func55, Tryd.ntmps55
  go_wp2_with fail
  go_ret
  exact ⟨rfl, rfl⟩
theorem mnone_nil (w : World) : Calls Tryd.prog 55 #[.pointer none] w fun e w' => e = .returned (.bool true) ∧ w' = w := by
  go_enter Tryd.func55, Tryd.ntmps55
  go_wp2_with fail
  go_ret
  exact ⟨rfl, rfl⟩
theorem IsM.none {w : World} {q : MH} {z : MS} (h : IsM w q z) : Calls Tryd.prog 55 #[.pointer (some ⟨q.m, 0, none⟩)] w fun e w' => e = .returned (.bool false) ∧ w' = w :=
  mnone_some w q.m q.pa (h.st.cell 1)

/-- A touch is counted. -/
def MS.look (z : MS) (x wd k : Int) : MS := { z with ft := if mayL z.ks x wd k then z.ft else wrap64 (z.ft + 1) }
def MS.ld (z : MS) (x wd k : Int) : Nat := if mayL z.ks x wd k then ldV z.l x wd else 0
def MS.stB (z : MS) (x wd k : Int) (v : Nat) : Bool := mayL z.ks x wd k && putE z.l x wd v == 0
def MS.sto (z : MS) (x wd k : Int) (v : Nat) : MS := { z with ft := if mayL z.ks x wd k then z.ft else wrap64 (z.ft + 1), l := if mayL z.ks x wd k then putL z.l x wd v else z.l }

theorem putL_len (l : List Nat) (x wd : Int) (v : Nat) : (putL l x wd v).length = l.length := by
  unfold putL; split
  · exact putTo_len _ _ _ _
  · rfl

theorem look_m (w : World) (q : MH) (z : MS) (h : IsM w q z) (x n k : Int) :
    Calls Tryd.prog 100 #[.pointer (some ⟨q.pw, 0, none⟩), .int .i64 x, .int .i64 n, .int .i64 k] w fun e w' =>
      e = .returned (.bool (mayL z.ks x n k)) ∧ IsM w' q (z.look x n k) ∧ Fr [q.pw] w w' := by
  obtain ⟨lk, hw⟩ := h.wt
  obtain ⟨n1, n2, n3, n4, n5, n6, n7, n8, n9, n10⟩ := h.nes
  refine (look_all w q.pw q.bw z.ks lk z.ft x n k hw).mono fun e w' ⟨he, ⟨lk', hw'⟩, hf⟩ => ⟨he, ⟨h.st.fr hf (by simp; omega), ⟨lk', hw'⟩, h.ar.fr hf (by simp; omega) (by simp; omega), h.ne, h.cfg, h.size, h.grains⟩, hf⟩

theorem mload (w : World) (q : MH) (z : MS) (h : IsM w q z) (x wd k : Int) :
    Calls Tryd.prog 69 #[.pointer (some ⟨q.m, 0, none⟩), .int .i64 x, .int .i64 wd, .int .i64 k] w fun e w' => e = .returned (.int .u64 (z.ld x wd k)) ∧ IsM w' q (z.look x wd k) ∧ Fr [q.pw] w w' := by
  have hn := h.none
  have hL := fun W hM => look_m W q z hM x wd k
  have c0 := h.st.cell 0
  have c1 := h.st.cell 1
  simp at c0 c1
  have HM := Lib.hid h
  have hne := h.nes.1
  have hg : ∀ W, IsM W q (z.look x wd k) → Calls Tryd.prog 105 #[.pointer (some ⟨q.pa, 0, none⟩), .int .i64 x, .int .i64 wd] W fun e w' => e = .returned (.tuple #[.int .u64 (ldV z.l x wd), .int .i64 (placeE z.l.length x wd)]) ∧ w' = W := fun W hM => aget_any W q.pa q.ga q.cap z.l hM.ar x wd
  unfold MS.ld
  generalize ldV z.l x wd = v at *
  generalize placeE z.l.length x wd = pe at *
  generalize z.look x wd k = z' at *
  generalize mayL z.ks x wd k = may at *
  clear h
  cases may
  · rw [if_neg (by simp)]
    go_enter Tryd.func69, Tryd.ntmps69
    go_wp2_with fail
    with_reducible refine hn.mono ?_
    rintro e w' ⟨rfl, rfl⟩
    go_wp2_with fail
    with_reducible refine (hL _ HM.out).mono ?_
    rintro e w1 ⟨rfl, hM1, f1⟩
    go_wp2_with fail
    go_ret
    exact ⟨rfl, hM1, f1⟩
  · rw [if_pos rfl]
    go_enter Tryd.func69, Tryd.ntmps69
    go_wp2_with fail
    with_reducible refine hn.mono ?_
    rintro e w' ⟨rfl, rfl⟩
    go_wp2_with fail
    with_reducible refine (hL _ HM.out).mono ?_
    rintro e w1 ⟨rfl, hM1, f1⟩
    have d1 := hM1.st.cell 1
    simp at d1
    clear c0 c1
    go_wp2_with fail
    with_reducible refine (hg _ hM1).mono ?_
    rintro e w' ⟨rfl, rfl⟩
    go_wp2_with fail
    go_ret
    exact ⟨rfl, hM1, f1⟩

theorem mstore (w : World) (q : MH) (z : MS) (h : IsM w q z) (x wd k : Int) (v : Nat) (hv : v < 18446744073709551616) :
    Calls Tryd.prog 60 #[.pointer (some ⟨q.m, 0, none⟩), .int .i64 x, .int .i64 wd, .int .i64 k, .int .u64 v] w fun e w' => e = .returned (.bool (z.stB x wd k v)) ∧ IsM w' q (z.sto x wd k v) ∧ Fr [q.pw, q.ga] w w' := by
  have hn := h.none
  have hL := fun W hM => look_m W q z hM x wd k
  have c0 := h.st.cell 0
  have c1 := h.st.cell 1
  simp at c0 c1
  have HM := Lib.hid h
  have hp : ∀ W, IsM W q (z.look x wd k) → Calls Tryd.prog 50 #[.pointer (some ⟨q.pa, 0, none⟩), .int .i64 x, .int .i64 wd, .int .u64 v] W fun e w' => e = .returned (.int .i64 (putE z.l x wd v)) ∧ IsM w' q { z.look x wd k with l := putL z.l x wd v } ∧ Fr [q.ga] W w' := fun W hM => by
    obtain ⟨n1, n2, n3, n4, n5, n6, n7, n8, n9, n10⟩ := hM.nes
    refine (aput_any W q.pa q.ga q.cap z.l hM.ar x wd v hv).mono fun e w' ⟨he, ha, hf⟩ => ⟨he, ?_, hf⟩
    obtain ⟨lk, hw⟩ := hM.wt
    exact ⟨hM.st.fr hf (by simp; omega), ⟨lk, hw.fr hf (by simp; omega) (by simp; omega)⟩, ha, hM.ne, hM.cfg, (putL_len _ _ _ _).trans hM.size, (putL_len _ _ _ _).trans hM.grains⟩
  have hst0 : mayL z.ks x wd k = false → z.sto x wd k v = z.look x wd k := fun e => by simp [MS.sto, MS.look, e]
  have hst1 : mayL z.ks x wd k = true → z.sto x wd k v = { z.look x wd k with l := putL z.l x wd v } := fun e => by simp [MS.sto, MS.look, e]
  unfold MS.stB
  generalize putE z.l x wd v = pe at *
  generalize ({ z.look x wd k with l := putL z.l x wd v } : MS) = z2 at *
  generalize z.look x wd k = z' at *
  generalize z.sto x wd k v = z3 at *
  generalize mayL z.ks x wd k = may at *
  clear h
  cases may
  · have e3 := hst0 rfl
    subst e3
    rw [Bool.false_and]
    clear hst0 hst1
    go_enter Tryd.func60, Tryd.ntmps60
    go_wp2_with fail
    with_reducible refine hn.mono ?_
    rintro e w' ⟨rfl, rfl⟩
    go_wp2_with fail
    with_reducible refine (hL _ HM.out).mono ?_
    rintro e w1 ⟨rfl, hM1, f1⟩
    go_wp2_with fail
    go_ret
    exact ⟨rfl, hM1, f1.mono (fun _ hm => by simp at hm; simp [hm])⟩
  · have e3 := hst1 rfl
    subst e3
    rw [Bool.true_and]
    have hb : (pe == 0) = ((pe : Int) == 0) := by rw [Bool.eq_iff_iff]; first | (simp; done) | (simp; omega)
    rw [hb]
    clear hst0 hst1 hb
    go_enter Tryd.func60, Tryd.ntmps60
    go_wp2_with fail
    with_reducible refine hn.mono ?_
    rintro e w' ⟨rfl, rfl⟩
    go_wp2_with fail
    with_reducible refine (hL _ HM.out).mono ?_
    rintro e w1 ⟨rfl, hM1, f1⟩
    have d1 := hM1.st.cell 1
    simp at d1
    clear c0 c1
    go_wp2_with fail
    with_reducible refine (hp _ hM1).mono ?_
    rintro e w2 ⟨rfl, hM2, f2⟩
    go_wp2_with fail
    go_ret
    exact ⟨rfl, hM2, (f1.mono (fun _ hm => by simp at hm; simp [hm])).trans (f2.mono (fun _ hm => by simp at hm; simp [hm]))⟩
end Go.Proofs.YtcagljjbiodcoaaDoor
