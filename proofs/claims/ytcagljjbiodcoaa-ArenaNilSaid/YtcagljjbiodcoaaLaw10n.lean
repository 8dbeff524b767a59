/- Layer 10: ArenaNil. -/
import Derived.Test.YtcagljjbiodcoaaLaw10a
import Derived.Test.YtcagljjbiodcoaaArnN
import Derived.Test.YtcagljjbiodcoaaOpen10
namespace Go.Proofs.Ytcagljjbiodcoaa
set_option linter.unusedVariables false
open Go.RowKit

theorem BytL.fr {w w' : World} {a : Option Addr} {l : List Nat} (h : BytL w a l) (hf : Fr [] w w') : BytL w' a l :=
  ⟨fun i hi => by
    obtain ⟨g, o, ha, hc, hg⟩ := h.at_ i hi
    exact ⟨g, o, ha, (hf.cell (p := ⟨g, o + i, none⟩) hg (by simp)).trans hc, Nat.lt_of_lt_of_le hg hf.size⟩, h.byte, h.len⟩
def NilRel (w0 : World) (X : Nat) (cs : Array Value) (a i : Value) (wr : World) : Prop :=
  ∃ t : Nat, t ≤ 2 ∧ i = .int .i64 t ∧ ∃ ao, a = .pointer ao ∧ Hid (NoA ao wr) ∧ Blk wr X 48 cs ∧ Fr [] w0 wr

set_option maxRecDepth 100000 in
set_option maxHeartbeats 4000000 in
theorem walk_nil10 (w : World) (hG : Glb w) (x : A10) (hx : x.v < 18446744073709551616 ∧ BytL w x.a x.b) :
    Calls Try.prog 6 #[.agg x.cells] w fun e w' => e = .returned (.bool true) ∧ Fr [] w w' := by
  obtain ⟨k, xx, y, n, wd, v, a, c, b⟩ := x
  obtain ⟨hv, hb⟩ := hx
  simp only at hv hb
  have hh := fun w hG => holds10 w hG
  have hbl : b.length ≤ maxLen := hb.len
  have HG := Lib.hid hG
  have key : Calls Try.prog 16 #[.int .i64 0, .slice (some ⟨w.heap.size + 1, 0, none⟩) 1 1] ((w.alloc (.cells #[.int .i64 k, .int .i64 xx, .int .i64 y, .int .i64 n, .int .i64 wd, .int .u64 v, .slice a b.length c] 48)).alloc (.cells #[.int .i64 k, .int .i64 xx, .int .i64 y, .int .i64 n, .int .i64 wd, .int .u64 v, .slice a b.length c] 48))
      fun e w' => e = .returned (.bool (fewB [⟨k, xx, y, n, wd, v, a, c, b⟩])) ∧ w' = (w.alloc (.cells #[.int .i64 k, .int .i64 xx, .int .i64 y, .int .i64 n, .int .i64 wd, .int .u64 v, .slice a b.length c] 48)).alloc (.cells #[.int .i64 k, .int .i64 xx, .int .i64 y, .int .i64 n, .int .i64 wd, .int .u64 v, .slice a b.length c] 48) := by
    have bk : Blk ((w.alloc (.cells #[.int .i64 k, .int .i64 xx, .int .i64 y, .int .i64 n, .int .i64 wd, .int .u64 v, .slice a b.length c] 48)).alloc (.cells #[.int .i64 k, .int .i64 xx, .int .i64 y, .int .i64 n, .int .i64 wd, .int .u64 v, .slice a b.length c] 48)) (w.heap.size + 1) 48 #[.int .i64 k, .int .i64 xx, .int .i64 y, .int .i64 n, .int .i64 wd, .int .u64 v, .slice a b.length c] := by
      have := Blk.new (w.alloc (.cells #[.int .i64 k, .int .i64 xx, .int .i64 y, .int .i64 n, .int .i64 wd, .int .u64 v, .slice a b.length c] 48)) 48 #[.int .i64 k, .int .i64 xx, .int .i64 y, .int .i64 n, .int .i64 wd, .int .u64 v, .slice a b.length c]
      rw [World.size_alloc] at this
      exact this
    have fb : Fr [] w ((w.alloc (.cells #[.int .i64 k, .int .i64 xx, .int .i64 y, .int .i64 n, .int .i64 wd, .int .u64 v, .slice a b.length c] 48)).alloc (.cells #[.int .i64 k, .int .i64 xx, .int .i64 y, .int .i64 n, .int .i64 wd, .int .u64 v, .slice a b.length c] 48)) := ((Fr.refl _ _).alloc _).alloc _
    refine few_any _ (some ⟨w.heap.size + 1, 0, none⟩) 1 [⟨k, xx, y, n, wd, v, a, c, b⟩] (by simp) ⟨fun _ => ⟨w.heap.size + 1, 0, rfl, bk.lt, fun i hi => ?_⟩, fun d hd => ?_⟩
    · have : i = 0 := by simpa using hi
      subst this
      exact ⟨bk.cell 0, bk.cell 1, bk.cell 2, bk.cell 3, bk.cell 4, bk.cell 5, bk.cell 6⟩
    · have : d = ⟨k, xx, y, n, wd, v, a, c, b⟩ := by simpa using hd
      subst this
      exact ⟨hv, hb.fr fb⟩
  generalize fewB [⟨k, xx, y, n, wd, v, a, c, b⟩] = r at *
  show Calls _ _ #[.agg #[.int .i64 k, .int .i64 xx, .int .i64 y, .int .i64 n, .int .i64 wd, .int .u64 v, .slice a b.length c]] _ _
  generalize b.length = bl at *
  clear hb hG
  go_enter Try.func6, Try.ntmps6
  go_wp2_with fail
  with_reducible refine key.mono ?_
  rintro e w' ⟨rfl, rfl⟩
  clear key
  cases r
  · go_wp2_with fail
    have f0 : Fr [] w ((w.alloc (.cells #[.int .i64 k, .int .i64 xx, .int .i64 y, .int .i64 n, .int .i64 wd, .int .u64 v, .slice a bl c] 48)).alloc (.cells #[.int .i64 k, .int .i64 xx, .int .i64 y, .int .i64 n, .int .i64 wd, .int .u64 v, .slice a bl c] 48)) := ((Fr.refl _ _).alloc _).alloc _
    with_reducible refine (hh _ (HG.out.fr0 f0)).mono ?_
    rintro e w1 ⟨rfl, f1⟩
    go_wp2_with fail
    go_ret
    exact ⟨rfl, f0.trans f1⟩
  have START : NilRel w w.heap.size #[.int .i64 k, .int .i64 xx, .int .i64 y, .int .i64 n, .int .i64 wd, .int .u64 v, .slice a bl c] (.pointer none) (.int .i64 0) ((w.alloc (.cells #[.int .i64 k, .int .i64 xx, .int .i64 y, .int .i64 n, .int .i64 wd, .int .u64 v, .slice a bl c] 48)).alloc (.cells #[.int .i64 k, .int .i64 xx, .int .i64 y, .int .i64 n, .int .i64 wd, .int .u64 v, .slice a bl c] 48)) :=
    ⟨0, by omega, rfl, none, rfl, Lib.hid (noA_nil _), (Blk.new w _ _).alloc _, ((Fr.refl _ _).alloc _).alloc _⟩
  go_wp2_with fail
  go_loopw [3, 4] (fun aa i wr => NilRel w w.heap.size #[.int .i64 k, .int .i64 xx, .int .i64 y, .int .i64 n, .int .i64 wd, .int .u64 v, .slice a bl c] aa i wr) (fun _ i _ => 2 - (intOf i).toNat)
  case atStart => exact START
  case round =>
    clear START
    obtain ⟨t, ht, rfl, ao, rfl, hN, bX, hf⟩ := hrel
    by_cases hlt : t < 2
    · have hY := bX.cell
      have g1 : (t : Int) < 2 := by omega
      go_wp2_with fail
      with_reducible refine (nget_any _ ao hN.out xx wd).mono ?_
      rintro e w' ⟨rfl, rfl⟩
      go_wp2_with fail
      with_reducible refine (nread_any _ ao hN.out xx n).mono ?_
      rintro e w2 ⟨rfl, f2⟩
      have hN2 := Lib.hid (hN.out.fr f2)
      have bX2 := bX.fr f2 (by simp)
      have hY2 := bX2.cell
      have hf2 := Lib.hid (hf.trans f2)
      clear hN bX hY hf f2
      go_wp2_with fail
      with_reducible refine (nview_any _ ao hN2.out xx n).mono ?_
      rintro e w' ⟨rfl, rfl⟩
      go_wp2_with fail
      with_reducible refine (nput_any _ ao hN2.out xx wd v).mono ?_
      rintro e w' ⟨rfl, rfl⟩
      go_wp2_with fail
      with_reducible refine (nwrite_any _ ao hN2.out xx a bl c hbl).mono ?_
      rintro e w' ⟨rfl, rfl⟩
      go_wp2_with fail
      with_reducible refine (nzero_any _ ao hN2.out xx n).mono ?_
      rintro e w' ⟨rfl, rfl⟩
      go_wp2_with fail
      with_reducible refine (nmove_any _ ao hN2.out xx y n).mono ?_
      rintro e w' ⟨rfl, rfl⟩
      go_wp2_with fail
      with_reducible refine (nhas_any _ ao hN2.out a bl c).mono ?_
      rintro e w' ⟨rfl, rfl⟩
      go_wp2_with fail
      with_reducible refine (nlen_any _ ao hN2.out).mono ?_
      rintro e w' ⟨rfl, rfl⟩
      go_wp2_with fail
      with_reducible refine (nimage_any _ ao hN2.out).mono ?_
      rintro e w' ⟨rfl, rfl⟩
      go_wp2_with fail
      refine ⟨⟨t + 1, by omega, by go_num, _, rfl, Lib.hid (noA_zero _ _ (by simp) ((Blk.new _ _ _).cell 0)), bX2.alloc _, hf2.out.alloc _⟩, by simp [intOf]; omega⟩
    · obtain rfl : t = 2 := by omega
      go_wp2_with fail
      with_reducible refine (hh _ (HG.out.fr0 hf)).mono ?_
      rintro e w1 ⟨rfl, f1⟩
      go_wp2_with fail
      go_ret
      exact ⟨rfl, hf.trans f1⟩
end Go.Proofs.Ytcagljjbiodcoaa
