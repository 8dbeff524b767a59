/- Layer 10: an act on both arenas: Put, Write, Zero, Move, Has. -/
import Derived.Test.YtcagljjbiodcoaaLaw10b
namespace Go.Proofs.Ytcagljjbiodcoaa
set_option linter.unusedVariables false
open Go.RowKit
theorem byt_low {w W : World} {a : Option Addr} {b : List Nat} {g q : Nat} {S : List Nat} (h : Byt w a b) (hl : b ≠ [] → ∀ g' o', a = some ⟨g', o', none⟩ → g' ≠ g ∧ g' ≠ q) (hf : Fr S w W) (hS : ∀ k ∈ S, k = g ∨ k = q) : Byt W a b := by
  by_cases h0 : b = []
  · subst h0
    exact ⟨fun i hi => by simp at hi, by simp, by simp⟩
  · exact h.fr hf (fun g' o' e hm => by
      have h1 := hl h0 g' o' e
      rcases hS _ hm with e2 | e2 <;> omega)

set_option maxRecDepth 100000 in
theorem act_put (w : World) (p g cap B q : Nat) (l : List Nat) (h : Duo w p g cap B q l) (d : A10) (hk : d.k ≠ 2 ∧ d.k ≠ 3 ∧ d.k ≠ 4 ∧ d.k ≠ 5 ∧ d.k ≠ 6 ∧ d.k ≠ 7 ∧ d.k ≠ 8) (hv : d.v < 18446744073709551616) (hb : Byt w d.a d.b) (hb3 : d.b.length ≤ 3000) (hlow : d.b ≠ [] → ∀ g' o', d.a = some ⟨g', o', none⟩ → g' ≠ g ∧ g' ≠ q) :
    Calls Try.prog 18 #[.pointer (some ⟨p, 0, none⟩), .pointer (some ⟨q, 0, none⟩), .agg d.cells] w (ActP w p g cap B q l.length) := by
  obtain ⟨k, x, y, n, wd, v, a, c, b⟩ := d
  have q2 : (k == 2) = false := by have := hk; simp at this ⊢; omega
  have q3 : (k == 3) = false := by have := hk; simp at this ⊢; omega
  have q4 : (k == 4) = false := by have := hk; simp at this ⊢; omega
  have q5 : (k == 5) = false := by have := hk; simp at this ⊢; omega
  have q6 : (k == 6) = false := by have := hk; simp at this ⊢; omega
  have q7 : (k == 7) = false := by have := hk; simp at this ⊢; omega
  have q8 : (k == 8) = false := by have := hk; simp at this ⊢; omega
  clear hk
  simp only at hv hb hb3 hlow
  have hP := pair_put p g cap B q l x wd v hv
  generalize putE l x wd v = E at *
  generalize putL l x wd v = l' at *
  have HC := Lib.hid (fun W S (hf : Fr S w W) hS => byt_low hb hlow hf hS)
  have h1 : ∀ W, IsA W p g cap l → Byt W a b → Calls Try.prog 11 #[.pointer (some ⟨p, 0, none⟩), .int .i64 x, .int .i64 wd, .int .u64 v] W fun e w' => e = .returned (.int .i64 E) ∧ IsA w' p g cap l' ∧ Fr [g] W w' := fun W hW hB => hP.one W hW trivial
  have h2 : ∀ W, IsXR W B q l → B ≤ W.heap.size → Byt W a b → Calls Try.prog 36 #[.pointer (some ⟨q, 0, none⟩), .int .i64 x, .int .i64 wd, .int .u64 v] W fun e w' => e = .returned (.int .i64 E) ∧ IsXR w' B q l' ∧ Fr [q] W w' := fun W hW hL hB => hP.two W hW hL trivial
  have hgl : g < w.heap.size := Nat.lt_of_lt_of_le h.gB h.le
  have hBq := h.qB
  have hql := h.two.lt
  have hpB := h.pB
  have hgB := h.gB
  have hBw := h.le
  have HP := Lib.hid (show ∀ w2 w3, Fr [g] w w2 → IsA w2 p g cap l' → IsXR w3 B q l' → Fr [q] w2 w3 → ActP w p g cap B q l.length (.returned (.bool true)) w3 from fun w2 w3 hf i2 i3 hf3 =>
    ⟨rfl, l', ⟨i2.fr hf3 (by simp; omega) (by simp; omega), i3, Nat.le_trans h.le (Nat.le_trans hf.size hf3.size), h.pB, h.gB⟩, hP.len, (hf.mono (fun _ hm => by simp at hm; simp [hm])).trans (hf3.mono (fun _ hm => by simp at hm; simp [hm]))⟩)
  have HD := Lib.hid h
  generalize ActP w p g cap B q l.length = P at *
  clear h hb hP hlow
  show Calls _ _ #[_, _, .agg #[.int .i64 k, .int .i64 x, .int .i64 y, .int .i64 n, .int .i64 wd, .int .u64 v, .slice a b.length c]] _ _
  generalize hbl : b.length = bl at *
  go_enter Try.func18, Try.ntmps18
  go_wp2_with fail
  obtain ⟨W1, hW1⟩ : ∃ W1, w.alloc (.cells #[.int .i64 k, .int .i64 x, .int .i64 y, .int .i64 n, .int .i64 wd, .int .u64 v, .slice a bl c] 48) = W1 := ⟨_, rfl⟩
  have bY : Blk W1 w.heap.size 48 #[.int .i64 k, .int .i64 x, .int .i64 y, .int .i64 n, .int .i64 wd, .int .u64 v, .slice a bl c] := by rw [← hW1]; exact Blk.new _ _ _
  have hf1 : Fr [] w W1 := by rw [← hW1]; exact (Fr.refl _ _).alloc _
  rw [hW1]
  clear hW1
  have hY := bY.cell
  go_region_held3 (fun W => ∀ i, W.cell? ⟨w.heap.size, i, none⟩ = (#[.int .i64 k, .int .i64 x, .int .i64 y, .int .i64 n, .int .i64 wd, .int .u64 v, .slice a bl c] : Array Value)[i]?) (exact hY) (first | (go_at_call 11; with_reducible refine (h1 _ (HD.out.one.fr hf1.drew (by simp) (by simp)) (HC.out _ _ hf1.drew (by simp))).mono ?_; rintro e w2 ⟨rfl, i2, f2⟩; have f12 := (hf1.drew.mono (S' := [g]) (by simp)).trans f2; have hY := (bY.fr ((frDrew (S := []) (w := W1)).join f2) (by simp; omega)).cell; have hx2 := HD.out.two.fr f12 (by simp; omega); have hs2 := Nat.le_trans hBw f12.size) | (go_at_call 36; with_reducible refine (h2 _ hx2 hs2 (HC.out _ _ f12 (by simp))).mono ?_; rintro e w3 ⟨rfl, i3, f3⟩; have hY := (bY.fr (((frDrew (S := []) (w := W1)).join f2).join f3) (by simp; omega)).cell))
  go_wp2_with fail
  exact HP.out _ _ f12 i2 i3 f3

set_option maxRecDepth 100000 in
theorem act_write (w : World) (p g cap B q : Nat) (l : List Nat) (h : Duo w p g cap B q l) (d : A10) (hk : d.k = 4) (hv : d.v < 18446744073709551616) (hb : Byt w d.a d.b) (hb3 : d.b.length ≤ 3000) (hlow : d.b ≠ [] → ∀ g' o', d.a = some ⟨g', o', none⟩ → g' ≠ g ∧ g' ≠ q) :
    Calls Try.prog 18 #[.pointer (some ⟨p, 0, none⟩), .pointer (some ⟨q, 0, none⟩), .agg d.cells] w (ActP w p g cap B q l.length) := by
  obtain ⟨k, x, y, n, wd, v, a, c, b⟩ := d
  simp only at hk
  subst hk
  simp only at hv hb hb3 hlow
  obtain ⟨l', E, hP⟩ := pair_write p g cap B q l x a c b hb3
  have HC := Lib.hid (fun W S (hf : Fr S w W) hS => byt_low hb hlow hf hS)
  have h1 : ∀ W, IsA W p g cap l → Byt W a b → Calls Try.prog 20 #[.pointer (some ⟨p, 0, none⟩), .int .i64 x, .slice a b.length c] W fun e w' => e = .returned (.int .i64 E) ∧ IsA w' p g cap l' ∧ Fr [g] W w' := fun W hW hB => hP.one W hW hB
  have h2 : ∀ W, IsXR W B q l → B ≤ W.heap.size → Byt W a b → Calls Try.prog 32 #[.pointer (some ⟨q, 0, none⟩), .int .i64 x, .slice a b.length c] W fun e w' => e = .returned (.int .i64 E) ∧ IsXR w' B q l' ∧ Fr [q] W w' := fun W hW hL hB => hP.two W hW hL hB
  have hgl : g < w.heap.size := Nat.lt_of_lt_of_le h.gB h.le
  have hBq := h.qB
  have hql := h.two.lt
  have hpB := h.pB
  have hgB := h.gB
  have hBw := h.le
  have HP := Lib.hid (show ∀ w2 w3, Fr [g] w w2 → IsA w2 p g cap l' → IsXR w3 B q l' → Fr [q] w2 w3 → ActP w p g cap B q l.length (.returned (.bool true)) w3 from fun w2 w3 hf i2 i3 hf3 =>
    ⟨rfl, l', ⟨i2.fr hf3 (by simp; omega) (by simp; omega), i3, Nat.le_trans h.le (Nat.le_trans hf.size hf3.size), h.pB, h.gB⟩, hP.len, (hf.mono (fun _ hm => by simp at hm; simp [hm])).trans (hf3.mono (fun _ hm => by simp at hm; simp [hm]))⟩)
  have HD := Lib.hid h
  generalize ActP w p g cap B q l.length = P at *
  clear h hb hP hlow
  show Calls _ _ #[_, _, .agg #[.int .i64 4, .int .i64 x, .int .i64 y, .int .i64 n, .int .i64 wd, .int .u64 v, .slice a b.length c]] _ _
  generalize hbl : b.length = bl at *
  go_enter Try.func18, Try.ntmps18
  go_wp2_with fail
  obtain ⟨W1, hW1⟩ : ∃ W1, w.alloc (.cells #[.int .i64 4, .int .i64 x, .int .i64 y, .int .i64 n, .int .i64 wd, .int .u64 v, .slice a bl c] 48) = W1 := ⟨_, rfl⟩
  have bY : Blk W1 w.heap.size 48 #[.int .i64 4, .int .i64 x, .int .i64 y, .int .i64 n, .int .i64 wd, .int .u64 v, .slice a bl c] := by rw [← hW1]; exact Blk.new _ _ _
  have hf1 : Fr [] w W1 := by rw [← hW1]; exact (Fr.refl _ _).alloc _
  rw [hW1]
  clear hW1
  have hY := bY.cell
  go_region_held3 (fun W => ∀ i, W.cell? ⟨w.heap.size, i, none⟩ = (#[.int .i64 4, .int .i64 x, .int .i64 y, .int .i64 n, .int .i64 wd, .int .u64 v, .slice a bl c] : Array Value)[i]?) (exact hY) (first | (go_at_call 20; with_reducible refine (h1 _ (HD.out.one.fr hf1.drew (by simp) (by simp)) (HC.out _ _ hf1.drew (by simp))).mono ?_; rintro e w2 ⟨rfl, i2, f2⟩; have f12 := (hf1.drew.mono (S' := [g]) (by simp)).trans f2; have hY := (bY.fr ((frDrew (S := []) (w := W1)).join f2) (by simp; omega)).cell; have hx2 := HD.out.two.fr f12 (by simp; omega); have hs2 := Nat.le_trans hBw f12.size) | (go_at_call 32; with_reducible refine (h2 _ hx2 hs2 (HC.out _ _ f12 (by simp))).mono ?_; rintro e w3 ⟨rfl, i3, f3⟩; have hY := (bY.fr (((frDrew (S := []) (w := W1)).join f2).join f3) (by simp; omega)).cell))
  go_wp2_with fail
  exact HP.out _ _ f12 i2 i3 f3

set_option maxRecDepth 100000 in
theorem act_zero (w : World) (p g cap B q : Nat) (l : List Nat) (h : Duo w p g cap B q l) (d : A10) (hk : d.k = 5) (hv : d.v < 18446744073709551616) (hb : Byt w d.a d.b) (hb3 : d.b.length ≤ 3000) (hlow : d.b ≠ [] → ∀ g' o', d.a = some ⟨g', o', none⟩ → g' ≠ g ∧ g' ≠ q) :
    Calls Try.prog 18 #[.pointer (some ⟨p, 0, none⟩), .pointer (some ⟨q, 0, none⟩), .agg d.cells] w (ActP w p g cap B q l.length) := by
  obtain ⟨k, x, y, n, wd, v, a, c, b⟩ := d
  simp only at hk
  subst hk
  simp only at hv hb hb3 hlow
  obtain ⟨l', E, hP⟩ := pair_zero p g cap B q l x n
  have HC := Lib.hid (fun W S (hf : Fr S w W) hS => byt_low hb hlow hf hS)
  have h1 : ∀ W, IsA W p g cap l → Byt W a b → Calls Try.prog 21 #[.pointer (some ⟨p, 0, none⟩), .int .i64 x, .int .i64 n] W fun e w' => e = .returned (.int .i64 E) ∧ IsA w' p g cap l' ∧ Fr [g] W w' := fun W hW hB => hP.one W hW trivial
  have h2 : ∀ W, IsXR W B q l → B ≤ W.heap.size → Byt W a b → Calls Try.prog 33 #[.pointer (some ⟨q, 0, none⟩), .int .i64 x, .int .i64 n] W fun e w' => e = .returned (.int .i64 E) ∧ IsXR w' B q l' ∧ Fr [q] W w' := fun W hW hL hB => hP.two W hW hL trivial
  have hgl : g < w.heap.size := Nat.lt_of_lt_of_le h.gB h.le
  have hBq := h.qB
  have hql := h.two.lt
  have hpB := h.pB
  have hgB := h.gB
  have hBw := h.le
  have HP := Lib.hid (show ∀ w2 w3, Fr [g] w w2 → IsA w2 p g cap l' → IsXR w3 B q l' → Fr [q] w2 w3 → ActP w p g cap B q l.length (.returned (.bool true)) w3 from fun w2 w3 hf i2 i3 hf3 =>
    ⟨rfl, l', ⟨i2.fr hf3 (by simp; omega) (by simp; omega), i3, Nat.le_trans h.le (Nat.le_trans hf.size hf3.size), h.pB, h.gB⟩, hP.len, (hf.mono (fun _ hm => by simp at hm; simp [hm])).trans (hf3.mono (fun _ hm => by simp at hm; simp [hm]))⟩)
  have HD := Lib.hid h
  generalize ActP w p g cap B q l.length = P at *
  clear h hb hP hlow
  show Calls _ _ #[_, _, .agg #[.int .i64 5, .int .i64 x, .int .i64 y, .int .i64 n, .int .i64 wd, .int .u64 v, .slice a b.length c]] _ _
  generalize hbl : b.length = bl at *
  go_enter Try.func18, Try.ntmps18
  go_wp2_with fail
  obtain ⟨W1, hW1⟩ : ∃ W1, w.alloc (.cells #[.int .i64 5, .int .i64 x, .int .i64 y, .int .i64 n, .int .i64 wd, .int .u64 v, .slice a bl c] 48) = W1 := ⟨_, rfl⟩
  have bY : Blk W1 w.heap.size 48 #[.int .i64 5, .int .i64 x, .int .i64 y, .int .i64 n, .int .i64 wd, .int .u64 v, .slice a bl c] := by rw [← hW1]; exact Blk.new _ _ _
  have hf1 : Fr [] w W1 := by rw [← hW1]; exact (Fr.refl _ _).alloc _
  rw [hW1]
  clear hW1
  have hY := bY.cell
  go_region_held3 (fun W => ∀ i, W.cell? ⟨w.heap.size, i, none⟩ = (#[.int .i64 5, .int .i64 x, .int .i64 y, .int .i64 n, .int .i64 wd, .int .u64 v, .slice a bl c] : Array Value)[i]?) (exact hY) (first | (go_at_call 21; with_reducible refine (h1 _ (HD.out.one.fr hf1.drew (by simp) (by simp)) (HC.out _ _ hf1.drew (by simp))).mono ?_; rintro e w2 ⟨rfl, i2, f2⟩; have f12 := (hf1.drew.mono (S' := [g]) (by simp)).trans f2; have hY := (bY.fr ((frDrew (S := []) (w := W1)).join f2) (by simp; omega)).cell; have hx2 := HD.out.two.fr f12 (by simp; omega); have hs2 := Nat.le_trans hBw f12.size) | (go_at_call 33; with_reducible refine (h2 _ hx2 hs2 (HC.out _ _ f12 (by simp))).mono ?_; rintro e w3 ⟨rfl, i3, f3⟩; have hY := (bY.fr (((frDrew (S := []) (w := W1)).join f2).join f3) (by simp; omega)).cell))
  go_wp2_with fail
  exact HP.out _ _ f12 i2 i3 f3

set_option maxRecDepth 100000 in
theorem act_move (w : World) (p g cap B q : Nat) (l : List Nat) (h : Duo w p g cap B q l) (d : A10) (hk : d.k = 6) (hv : d.v < 18446744073709551616) (hb : Byt w d.a d.b) (hb3 : d.b.length ≤ 3000) (hlow : d.b ≠ [] → ∀ g' o', d.a = some ⟨g', o', none⟩ → g' ≠ g ∧ g' ≠ q) :
    Calls Try.prog 18 #[.pointer (some ⟨p, 0, none⟩), .pointer (some ⟨q, 0, none⟩), .agg d.cells] w (ActP w p g cap B q l.length) := by
  obtain ⟨k, x, y, n, wd, v, a, c, b⟩ := d
  simp only at hk
  subst hk
  simp only at hv hb hb3 hlow
  obtain ⟨l', E, hP⟩ := pair_move p g cap B q l x y n
  have HC := Lib.hid (fun W S (hf : Fr S w W) hS => byt_low hb hlow hf hS)
  have h1 : ∀ W, IsA W p g cap l → Byt W a b → Calls Try.prog 22 #[.pointer (some ⟨p, 0, none⟩), .int .i64 x, .int .i64 y, .int .i64 n] W fun e w' => e = .returned (.int .i64 E) ∧ IsA w' p g cap l' ∧ Fr [g] W w' := fun W hW hB => hP.one W hW trivial
  have h2 : ∀ W, IsXR W B q l → B ≤ W.heap.size → Byt W a b → Calls Try.prog 34 #[.pointer (some ⟨q, 0, none⟩), .int .i64 x, .int .i64 y, .int .i64 n] W fun e w' => e = .returned (.int .i64 E) ∧ IsXR w' B q l' ∧ Fr [q] W w' := fun W hW hL hB => hP.two W hW hL trivial
  have hgl : g < w.heap.size := Nat.lt_of_lt_of_le h.gB h.le
  have hBq := h.qB
  have hql := h.two.lt
  have hpB := h.pB
  have hgB := h.gB
  have hBw := h.le
  have HP := Lib.hid (show ∀ w2 w3, Fr [g] w w2 → IsA w2 p g cap l' → IsXR w3 B q l' → Fr [q] w2 w3 → ActP w p g cap B q l.length (.returned (.bool true)) w3 from fun w2 w3 hf i2 i3 hf3 =>
    ⟨rfl, l', ⟨i2.fr hf3 (by simp; omega) (by simp; omega), i3, Nat.le_trans h.le (Nat.le_trans hf.size hf3.size), h.pB, h.gB⟩, hP.len, (hf.mono (fun _ hm => by simp at hm; simp [hm])).trans (hf3.mono (fun _ hm => by simp at hm; simp [hm]))⟩)
  have HD := Lib.hid h
  generalize ActP w p g cap B q l.length = P at *
  clear h hb hP hlow
  show Calls _ _ #[_, _, .agg #[.int .i64 6, .int .i64 x, .int .i64 y, .int .i64 n, .int .i64 wd, .int .u64 v, .slice a b.length c]] _ _
  generalize hbl : b.length = bl at *
  go_enter Try.func18, Try.ntmps18
  go_wp2_with fail
  obtain ⟨W1, hW1⟩ : ∃ W1, w.alloc (.cells #[.int .i64 6, .int .i64 x, .int .i64 y, .int .i64 n, .int .i64 wd, .int .u64 v, .slice a bl c] 48) = W1 := ⟨_, rfl⟩
  have bY : Blk W1 w.heap.size 48 #[.int .i64 6, .int .i64 x, .int .i64 y, .int .i64 n, .int .i64 wd, .int .u64 v, .slice a bl c] := by rw [← hW1]; exact Blk.new _ _ _
  have hf1 : Fr [] w W1 := by rw [← hW1]; exact (Fr.refl _ _).alloc _
  rw [hW1]
  clear hW1
  have hY := bY.cell
  go_region_held3 (fun W => ∀ i, W.cell? ⟨w.heap.size, i, none⟩ = (#[.int .i64 6, .int .i64 x, .int .i64 y, .int .i64 n, .int .i64 wd, .int .u64 v, .slice a bl c] : Array Value)[i]?) (exact hY) (first | (go_at_call 22; with_reducible refine (h1 _ (HD.out.one.fr hf1.drew (by simp) (by simp)) (HC.out _ _ hf1.drew (by simp))).mono ?_; rintro e w2 ⟨rfl, i2, f2⟩; have f12 := (hf1.drew.mono (S' := [g]) (by simp)).trans f2; have hY := (bY.fr ((frDrew (S := []) (w := W1)).join f2) (by simp; omega)).cell; have hx2 := HD.out.two.fr f12 (by simp; omega); have hs2 := Nat.le_trans hBw f12.size) | (go_at_call 34; with_reducible refine (h2 _ hx2 hs2 (HC.out _ _ f12 (by simp))).mono ?_; rintro e w3 ⟨rfl, i3, f3⟩; have hY := (bY.fr (((frDrew (S := []) (w := W1)).join f2).join f3) (by simp; omega)).cell))
  go_wp2_with fail
  exact HP.out _ _ f12 i2 i3 f3
end Go.Proofs.Ytcagljjbiodcoaa
