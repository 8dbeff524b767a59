/- Layer 10: an act on both arenas: a byte written into a View; any act; few acts. -/
import Derived.Test.YtcagljjbiodcoaaLaw10d
namespace Go.Proofs.Ytcagljjbiodcoaa
set_option linter.unusedVariables false
open Go.RowKit

theorem spl_one (l : List Nat) (i k : Nat) (h : i < l.length) : spl l i [k] = l.set i k := by
  unfold spl
  rw [List.set_eq_take_append_cons_drop, if_pos h]
  simp
set_option maxRecDepth 100000 in
theorem act_view (w : World) (p g cap B q : Nat) (l : List Nat) (h : Duo w p g cap B q l) (d : A10) (hk : d.k = 7) (hv : d.v < 18446744073709551616) :
    Calls Try.prog 18 #[.pointer (some ⟨p, 0, none⟩), .pointer (some ⟨q, 0, none⟩), .agg d.cells] w (ActP w p g cap B q l.length) := by
  obtain ⟨k, x, y, n, wd, v, a, c, b⟩ := d
  simp only at hk hv
  subst hk
  have HP := Lib.hid (show ∀ w', Fr [] w w' → ActP w p g cap B q l.length (.returned (.bool true)) w' from fun w' hf => ⟨rfl, l, h.fr0 hf, rfl, hf.mono (fun _ hm => by simp at hm)⟩)
  have HD := Lib.hid h
  show Calls _ _ #[_, _, .agg #[.int .i64 7, .int .i64 x, .int .i64 y, .int .i64 n, .int .i64 wd, .int .u64 v, .slice a b.length c]] _ _
  generalize hbl : b.length = bl at *
  have hgl : g < w.heap.size := Nat.lt_of_lt_of_le h.gB h.le
  have hql := h.two.lt
  have hBq := h.qB
  have hpB := h.pB
  have hgB := h.gB
  have hBw := h.le
  by_cases hE : partE l.length x n = 0
  · obtain ⟨x, m, rfl, rfl, hxm⟩ := part_cases hE
    have h1 := fun W hW => aview_yes W p g cap l hW x m hxm
    have h2 := fun W hW => xread_yes W B q l hW x m hxm
    have hml : ((l.drop x).take m).length = m := by rw [List.length_take, List.length_drop]; omega
    have hbb : ∀ b ∈ (l.drop x).take m, b < 256 := fun b hb => h.one.byte b (List.mem_of_mem_drop (List.mem_of_mem_take hb))
    have hm20 : x + m ≤ 1048576 := by have := h.one.len; omega
    have HB := Lib.hid (fun W hW => IsA.part (w := W) (p := p) (g := g) (cap := cap) (l := l) hW x m hxm)
    have hpo : m ≠ 0 → partO x m = x := fun h0 => by unfold partO; rw [if_neg h0]
    by_cases h0 : m = 0
    · subst h0
      have hms : (l.drop x).take 0 = [] := rfl
      rw [hms] at h2 HB
      generalize ActP w p g cap B q l.length = P at *
      clear h hE hml hbb
      generalize partO x 0 = o at *
      go_enter Try.func18, Try.ntmps18
      go_wp2_with fail
      obtain ⟨W1, hW1⟩ : ∃ W1, w.alloc (.cells #[.int .i64 7, .int .i64 x, .int .i64 y, .int .i64 (0 : Nat), .int .i64 wd, .int .u64 v, .slice a bl c] 48) = W1 := ⟨_, rfl⟩
      have bY : Blk W1 w.heap.size 48 #[.int .i64 7, .int .i64 x, .int .i64 y, .int .i64 (0 : Nat), .int .i64 wd, .int .u64 v, .slice a bl c] := by rw [← hW1]; exact Blk.new _ _ _
      have hf1 : Fr [] w W1 := by rw [← hW1]; exact (Fr.refl _ _).alloc _
      first | rw [hW1] | (simp only [Int.natCast_zero] at hW1; rw [hW1])
      clear hW1
      have hY := bY.cell
      refine (h1 _ (HD.out.one.fr hf1 (by simp) (by simp))).mono ?_
      rintro e w2 ⟨rfl, hw2⟩
      subst hw2
      go_wp2_with fail
      refine (h2 _ (HD.out.two.fr0 hf1)).mono ?_
      rintro e w3 ⟨v3, rfl, g3, cap3, rfl, hg3, hr3, f3⟩
      have s2 := conv_str _ _ 0 _ (HB.out _ (HD.out.one.fr (hf1.trans f3) (by simp) (by simp)))
      have s3 := conv_str _ _ cap3 _ (hr3.byt (by simp) (by simp))
      simp only [List.length_nil] at s2 s3 ⊢
      have hY3 := (bY.fr f3 (by simp)).cell
      have F3 := Lib.hid (hf1.trans f3)
      clear h1 h2 hY bY
      go_wp2_with fail
      exact HP.out _ F3.out
    · have hxm1 : x + (m - 1) < l.length := by omega
      have h4 : ∀ W, IsXR W B q l → B ≤ W.heap.size → ∀ a c, Byt W a [v % 256] → Calls Try.prog 32 #[.pointer (some ⟨q, 0, none⟩), .int .i64 ((x : Int) + m - 1), .slice a 1 c] W fun e w' => e = .returned (.int .i64 0) ∧ IsXR w' B q (l.set (x + (m - 1)) (v % 256)) ∧ Fr [q] W w' := fun W hW hB a c hby => by
        have h := xwrite_yes W B q l hW hB (x + (m - 1)) c a [v % 256] hby (by simp; omega)
        rw [spl_one l _ _ hxm1, show ((x + (m - 1) : Nat) : Int) = (x : Int) + m - 1 by omega] at h
        exact h
      have HF := Lib.hid (show ∀ w2 w3, Fr [g] w w2 → IsA w2 p g cap (l.set (x + (m - 1)) (v % 256)) → IsXR w3 B q (l.set (x + (m - 1)) (v % 256)) → Fr [q] w2 w3 → ActP w p g cap B q l.length (.returned (.bool true)) w3 from fun w2 w3 hf i2 i3 hf3 =>
        ⟨rfl, _, ⟨i2.fr hf3 (by simp; omega) (by simp; omega), i3, Nat.le_trans h.le (Nat.le_trans hf.size hf3.size), h.pB, h.gB⟩, by simp, (hf.mono (fun _ hm => by simp at hm; simp [hm])).trans (hf3.mono (fun _ hm => by simp at hm; simp [hm]))⟩)
      have HS := Lib.hid (fun W (hW : IsA W p g cap l) => hW.set (x + (m - 1)) (v % 256) hxm1 (Nat.mod_lt _ (by decide)))
      have HZ := Lib.hid (fun W (hW : IsA W p g cap l) => And.intro (hW.row.cell (x + (m - 1)) hxm1) (hW.row.frozen (x + (m - 1))))
      generalize l.set (x + (m - 1)) (v % 256) = l2 at *
      generalize l[x + (m - 1)]?.getD 0 = old at *
      rw [hpo h0] at h1
      have hpo2 := hpo h0
      generalize ActP w p g cap B q l.length = P at *
      generalize (l.drop x).take m = ms at *
      clear h hE hpo
      go_enter Try.func18, Try.ntmps18
      go_wp2_with fail
      obtain ⟨W1, hW1⟩ : ∃ W1, w.alloc (.cells #[.int .i64 7, .int .i64 x, .int .i64 y, .int .i64 m, .int .i64 wd, .int .u64 v, .slice a bl c] 48) = W1 := ⟨_, rfl⟩
      have bY : Blk W1 w.heap.size 48 #[.int .i64 7, .int .i64 x, .int .i64 y, .int .i64 m, .int .i64 wd, .int .u64 v, .slice a bl c] := by rw [← hW1]; exact Blk.new _ _ _
      have hf1 : Fr [] w W1 := by rw [← hW1]; exact (Fr.refl _ _).alloc _
      rw [hW1]
      clear hW1
      have hY := bY.cell
      with_reducible refine (h1 _ (HD.out.one.fr hf1 (by simp) (by simp))).mono ?_
      rintro e w2 ⟨rfl, hw2⟩
      subst hw2
      go_wp2_with fail
      with_reducible refine (h2 _ (HD.out.two.fr0 hf1)).mono ?_
      rintro e w3 ⟨v3, rfl, g3, cap3, rfl, hg3, hr3, f3⟩
      have f13 := hf1.trans f3
      have iA := HD.out.one.fr f13 (by simp) (by simp)
      have hbt := HB.out _ iA
      rw [hpo2] at hbt
      have s2 := conv_str _ _ m _ hbt
      have s3 := conv_str _ _ cap3 _ (hr3.byt hbb (by omega))
      rw [hml] at s2 s3 ⊢
      have hY3 := (bY.fr f3 (by simp)).cell
      obtain ⟨c0, z0⟩ := HZ.out _ iA
      have iA2 := HS.out _ iA
      have e0 : decide ((0 : Int) < m) = true := by simp; omega
      have e1 : decide (0 < m) = true := by simp; omega
      have i0 : (0 : Int) < m := by omega
      have i1 : (0 : Int) ≤ (m : Int) - 1 := by omega
      have i2 : (m : Int) - 1 < m := by omega
      have i3 : IntKind.i64.wrap ((m : Int) - 1) = (m : Int) - 1 := IntWalk.i64_in _ (by omega)
      have n1 : g ≠ w.heap.size := by omega
      have n2 : w.heap.size ≠ g := by omega
      have F3 := Lib.hid f13
      have HI := Lib.hid iA2
      have HR := Lib.hid hr3
      clear h1 h2 hY bY iA iA2 hbt hr3
      have b5 := byt_one (w3.setCell ⟨g, x + (m - 1), none⟩ (.int .u8 (v % 256 : Nat))) (v % 256) (Nat.mod_lt _ (by decide))
      have hf5 : Fr [g] w ((w3.setCell ⟨g, x + (m - 1), none⟩ (.int .u8 (v % 256 : Nat))).alloc (.cells #[.int .u8 (v % 256 : Nat)] 5)) := (((F3.out.mono (fun _ hm => by simp at hm)).setCell (.inl (by simp)) _).alloc _)
      have e5 : ((v % 256 : Nat) : Int) = (v : Int) % 256 := by omega
      have h5 := h4 _ (HD.out.two.fr hf5 (by simp; omega)) (Nat.le_trans hBw hf5.size) _ 1 b5
      have i5 := HI.out.fr (S := []) ((Fr.refl [] _).alloc (.cells #[.int .u8 (v % 256 : Nat)] 5)) (by simp) (by simp)
      have hsz : (w3.setCell ⟨g, x + (m - 1), none⟩ (.int .u8 (v % 256 : Nat))).heap.size = w3.heap.size := by simp [World.setCell]
      rw [hsz] at h5
      rw [e5] at h5 i5 hf5
      have H5 := Lib.hid h5
      have I5 := Lib.hid i5
      have F5 := Lib.hid hf5
      have i4 : (0 : Int) ≤ (x : Int) + m - 1 := by omega
      clear h5 i5 hf5 b5 hsz e5 h4
      go_wp2_with fail
      with_reducible refine H5.out.mono ?_
      rintro e w6 ⟨rfl, i6, f6⟩
      go_wp2_with fail
      exact HF.out _ _ F5.out I5.out i6 f6
  · have h1 := fun W hW => aview_no W p g cap l hW x n hE
    have h2 := fun W hW => xread_no W B q l hW x n hE
    generalize ActP w p g cap B q l.length = P at *
    clear h hE
    go_enter Try.func18, Try.ntmps18
    go_wp2_with fail
    obtain ⟨W1, hW1⟩ : ∃ W1, w.alloc (.cells #[.int .i64 7, .int .i64 x, .int .i64 y, .int .i64 n, .int .i64 wd, .int .u64 v, .slice a bl c] 48) = W1 := ⟨_, rfl⟩
    have bY : Blk W1 w.heap.size 48 #[.int .i64 7, .int .i64 x, .int .i64 y, .int .i64 n, .int .i64 wd, .int .u64 v, .slice a bl c] := by rw [← hW1]; exact Blk.new _ _ _
    have hf1 : Fr [] w W1 := by rw [← hW1]; exact (Fr.refl _ _).alloc _
    rw [hW1]
    clear hW1
    have hY := bY.cell
    with_reducible refine (h1 _ (HD.out.one.fr hf1 (by simp) (by simp))).mono ?_
    rintro e w2 ⟨rfl, hw2⟩
    subst hw2
    go_wp2_with fail
    with_reducible refine (h2 _ (HD.out.two.fr0 hf1)).mono ?_
    rintro e w' ⟨rfl, hw3⟩
    subst hw3
    have s2 := fun w => run_convert_bytes_nil (P := Try.prog) (w := w) 28 5 Try.underlying28 Try.underlying5 0 0 9 Try.underlying9
    clear h1 h2
    go_wp2_with fail
    exact HP.out _ hf1
end Go.Proofs.Ytcagljjbiodcoaa
