/- Layer 10: an act on both arenas: Has, Read, View; few acts. -/
import Derived.Test.YtcagljjbiodcoaaLaw10c
namespace Go.Proofs.Ytcagljjbiodcoaa
set_option linter.unusedVariables false
open Go.RowKit

set_option maxRecDepth 100000 in
theorem act_has (w : World) (p g cap B q : Nat) (l : List Nat) (h : Duo w p g cap B q l) (hG : Glb w) (d : A10) (hk : d.k = 8) (hb : Byt w d.a d.b) :
    Calls Try.prog 18 #[.pointer (some ⟨p, 0, none⟩), .pointer (some ⟨q, 0, none⟩), .agg d.cells] w (ActP w p g cap B q l.length) := by
  obtain ⟨k, x, y, n, wd, v, a, c, b⟩ := d
  simp only at hk hb
  subst hk
  have HC := Lib.hid (fun W (hf : Fr [] w W) => hb.fr hf (by simp))
  have h1 : ∀ W, IsA W p g cap l → Byt W a b → Glb W → Calls Try.prog 23 #[.pointer (some ⟨p, 0, none⟩), .slice a b.length c] W fun e w' => e = .returned (.bool (hasB l b)) ∧ Fr [] W w' := fun W hW hB hg => by
    obtain ⟨ml, hml⟩ := hg.ml
    exact ahas_any W p g cap l hW a c b hB ml hml
  have h2 : ∀ W, IsXR W B q l → Byt W a b → Calls Try.prog 35 #[.pointer (some ⟨q, 0, none⟩), .slice a b.length c] W fun e w' => e = .returned (.bool (hasB l b)) ∧ Fr [] W w' := fun W hW hB => xhas_any W B q l hW a c b hB
  have HP := Lib.hid (show ∀ w', Fr [] w w' → ActP w p g cap B q l.length (.returned (.bool true)) w' from fun w' hf => ⟨rfl, l, h.fr0 hf, rfl, hf.mono (fun _ hm => by simp at hm)⟩)
  have HD := Lib.hid h
  have HG := Lib.hid hG
  generalize ActP w p g cap B q l.length = P at *
  generalize hasB l b = r at *
  clear h hb hG
  show Calls _ _ #[_, _, .agg #[.int .i64 8, .int .i64 x, .int .i64 y, .int .i64 n, .int .i64 wd, .int .u64 v, .slice a b.length c]] _ _
  generalize hbl : b.length = bl at *
  go_enter Try.func18, Try.ntmps18
  go_wp2_with fail
  obtain ⟨W1, hW1⟩ : ∃ W1, w.alloc (.cells #[.int .i64 8, .int .i64 x, .int .i64 y, .int .i64 n, .int .i64 wd, .int .u64 v, .slice a bl c] 48) = W1 := ⟨_, rfl⟩
  have bY : Blk W1 w.heap.size 48 #[.int .i64 8, .int .i64 x, .int .i64 y, .int .i64 n, .int .i64 wd, .int .u64 v, .slice a bl c] := by rw [← hW1]; exact Blk.new _ _ _
  have hf1 : Fr [] w W1 := by rw [← hW1]; exact (Fr.refl _ _).alloc _
  rw [hW1]
  clear hW1
  have hY := bY.cell
  go_region_held3 (fun W => ∀ i, W.cell? ⟨w.heap.size, i, none⟩ = (#[.int .i64 8, .int .i64 x, .int .i64 y, .int .i64 n, .int .i64 wd, .int .u64 v, .slice a bl c] : Array Value)[i]?) (exact hY) (first | (go_at_call 23; with_reducible refine (h1 _ (HD.out.one.fr hf1.drew (by simp) (by simp)) (HC.out _ hf1.drew) (HG.out.fr0 hf1.drew)).mono ?_; rintro e w2 ⟨rfl, f2⟩; have f12 := hf1.drew.trans f2; have hY := (bY.fr ((frDrew (S := []) (w := W1)).trans f2) (by simp)).cell) | (go_at_call 35; with_reducible refine (h2 _ (HD.out.two.fr0 f12) (HC.out _ f12)).mono ?_; rintro e w3 ⟨rfl, f3⟩; have hY := (bY.fr (((frDrew (S := []) (w := W1)).trans f2).trans f3) (by simp)).cell))
  go_wp2_with fail
  exact HP.out _ (f12.trans f3)

set_option maxRecDepth 100000 in
theorem act_read (w : World) (p g cap B q : Nat) (l : List Nat) (h : Duo w p g cap B q l) (d : A10) (hk : d.k = 3) :
    Calls Try.prog 18 #[.pointer (some ⟨p, 0, none⟩), .pointer (some ⟨q, 0, none⟩), .agg d.cells] w (ActP w p g cap B q l.length) := by
  obtain ⟨k, x, y, n, wd, v, a, c, b⟩ := d
  simp only at hk
  subst hk
  have HP := Lib.hid (show ∀ w', Fr [] w w' → ActP w p g cap B q l.length (.returned (.bool true)) w' from fun w' hf => ⟨rfl, l, h.fr0 hf, rfl, hf.mono (fun _ hm => by simp at hm)⟩)
  have HD := Lib.hid h
  generalize ActP w p g cap B q l.length = P at *
  show Calls _ _ #[_, _, .agg #[.int .i64 3, .int .i64 x, .int .i64 y, .int .i64 n, .int .i64 wd, .int .u64 v, .slice a b.length c]] _ _
  generalize hbl : b.length = bl at *
  by_cases hE : partE l.length x n = 0
  · obtain ⟨x, m, rfl, rfl, hxm⟩ := part_cases hE
    have h1 := fun W hW => aread_yes W p g cap l hW x m hxm
    have h2 := fun W hW => xread_yes W B q l hW x m hxm
    have hml : ((l.drop x).take m).length = m := by rw [List.length_take, List.length_drop]; omega
    have hbb : ∀ b ∈ (l.drop x).take m, b < 256 := fun b hb => h.one.byte b (List.mem_of_mem_drop (List.mem_of_mem_take hb))
    have hm20 : m ≤ 1048576 := by have := h.one.len; omega
    generalize (l.drop x).take m = ms at *
    clear h hE
    go_enter Try.func18, Try.ntmps18
    go_wp2_with fail
    obtain ⟨W1, hW1⟩ : ∃ W1, w.alloc (.cells #[.int .i64 3, .int .i64 x, .int .i64 y, .int .i64 m, .int .i64 wd, .int .u64 v, .slice a bl c] 48) = W1 := ⟨_, rfl⟩
    have bY : Blk W1 w.heap.size 48 #[.int .i64 3, .int .i64 x, .int .i64 y, .int .i64 m, .int .i64 wd, .int .u64 v, .slice a bl c] := by rw [← hW1]; exact Blk.new _ _ _
    have hf1 : Fr [] w W1 := by rw [← hW1]; exact (Fr.refl _ _).alloc _
    rw [hW1]
    clear hW1
    with_reducible refine (h1 _ (HD.out.one.fr hf1 (by simp) (by simp))).mono ?_
    rintro e w2 ⟨v2, rfl, g2, cap2, rfl, hg2, hr2, f2⟩
    have hY := (bY.fr f2 (by simp)).cell
    go_wp2_with fail
    with_reducible refine (h2 _ (HD.out.two.fr0 (hf1.trans f2))).mono ?_
    rintro e w3 ⟨v3, rfl, g3, cap3, rfl, hg3, hr3, f3⟩
    have b2 := hr2.fr f3 (by simp)
    have s2 := conv_str _ _ cap2 _ (b2.byt hbb (by omega))
    have s3 := conv_str _ _ cap3 _ (hr3.byt hbb (by omega))
    have hY3 := (bY.fr (f2.trans f3) (by simp)).cell
    have hlt1 := hf1.size
    have F3 := Lib.hid ((hf1.trans f2).trans f3)
    by_cases h0 : m = 0
    · subst h0
      have hms : ms = [] := List.length_eq_zero_iff.1 hml
      subst hms
      simp only [List.length_nil] at s2 s3 ⊢
      clear h1 h2 hY bY
      go_wp2_with fail
      exact HP.out _ F3.out
    · have c0 := b2.cell 0 (by omega)
      have z0 := b2.frozen 0
      rw [hml] at s2 s3 ⊢
      have e0 : decide ((0 : Int) < m) = true := by simp; omega
      have e1 : decide (0 < m) = true := by simp; omega
      have i0 : (0 : Int) < m := by omega
      have i1 : 0 < m := by omega
      generalize ms[0]?.getD 0 = bv at *
      clear h1 h2 hY bY
      go_wp2_with fail
      exact HP.out _ (F3.out.setCell (.inr (by simp; omega)) _)
  · have h1 := fun W hW => aread_no W p g cap l hW x n hE
    have h2 := fun W hW => xread_no W B q l hW x n hE
    clear h hE
    go_enter Try.func18, Try.ntmps18
    go_wp2_with fail
    obtain ⟨W1, hW1⟩ : ∃ W1, w.alloc (.cells #[.int .i64 3, .int .i64 x, .int .i64 y, .int .i64 n, .int .i64 wd, .int .u64 v, .slice a bl c] 48) = W1 := ⟨_, rfl⟩
    have bY : Blk W1 w.heap.size 48 #[.int .i64 3, .int .i64 x, .int .i64 y, .int .i64 n, .int .i64 wd, .int .u64 v, .slice a bl c] := by rw [← hW1]; exact Blk.new _ _ _
    have hf1 : Fr [] w W1 := by rw [← hW1]; exact (Fr.refl _ _).alloc _
    rw [hW1]
    clear hW1
    with_reducible refine (h1 _ (HD.out.one.fr hf1 (by simp) (by simp))).mono ?_
    rintro e w2 ⟨rfl, f2⟩
    have hY := (bY.fr f2 (by simp)).cell
    go_wp2_with fail
    with_reducible refine (h2 _ (HD.out.two.fr0 (hf1.trans f2))).mono ?_
    rintro e w' ⟨rfl, rfl⟩
    have s2 := fun w => run_convert_bytes_nil (P := Try.prog) w _ _ Try.underlying28 Try.underlying5 0 0 9 Try.underlying9
    clear h1 h2
    go_wp2_with fail
    exact HP.out _ (hf1.trans f2)
end Go.Proofs.Ytcagljjbiodcoaa
