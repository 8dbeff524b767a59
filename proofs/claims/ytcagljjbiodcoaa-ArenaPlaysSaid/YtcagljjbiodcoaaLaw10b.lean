/- Layer 10: few acts; an act on both arenas. -/
import Derived.Test.YtcagljjbiodcoaaLaw10a
import Derived.Test.YtcagljjbiodcoaaAct10
import Derived.Deep.RegionHeld3
namespace Go.Proofs.Ytcagljjbiodcoaa
set_option linter.unusedVariables false
open Go.RowKit

/-- Both arenas hold the bytes l. -/
structure Duo (w : World) (p g cap B q : Nat) (l : List Nat) : Prop where
  one : IsA w p g cap l
  two : IsXR w B q l
  le : B ≤ w.heap.size
  pB : p < B
  gB : g < B
theorem Duo.fr0 {w w' : World} {p g cap B q : Nat} {l : List Nat} (h : Duo w p g cap B q l) (hf : Fr [] w w') : Duo w' p g cap B q l :=
  ⟨h.one.fr hf (by simp) (by simp), h.two.fr0 hf, Nat.le_trans h.le hf.size, h.pB, h.gB⟩
theorem Duo.qB {w : World} {p g cap B q : Nat} {l : List Nat} (h : Duo w p g cap B q l) : B ≤ q := h.two.1
def ActP (w : World) (p g cap B q n : Nat) (e : Ending) (w' : World) : Prop := e = .returned (.bool true) ∧ ∃ l', Duo w' p g cap B q l' ∧ l'.length = n ∧ Fr [g, q] w w'
theorem part_cases {n : Nat} {x m : Int} (h : partE n x m = 0) : ∃ y k : Nat, x = y ∧ m = k ∧ y + k ≤ n := by
  unfold partE at h
  split at h
  · cases h
  · exact ⟨x.toNat, m.toNat, by omega, by omega, by omega⟩
theorem IsXR.cell0 {w : World} {B q : Nat} {l : List Nat} (h : IsXR w B q l) : ∃ g cap, w.cell? ⟨q, 0, none⟩ = some (.slice (some ⟨g, 0, none⟩) l.length cap) ∧ Byt w (some ⟨g, 0, none⟩) l := by
  obtain ⟨h1, ⟨g, cap, h2, h3, h4⟩, h5, h6, h7⟩ := h
  exact ⟨g, cap, h3.cell 0, h4.byt h5 (by omega)⟩

set_option maxRecDepth 100000 in
theorem act_get (w : World) (p g cap B q : Nat) (l : List Nat) (h : Duo w p g cap B q l) (d : A10) (hk : d.k = 2) :
    Calls Try.prog 18 #[.pointer (some ⟨p, 0, none⟩), .pointer (some ⟨q, 0, none⟩), .agg d.cells] w (ActP w p g cap B q l.length) := by
  obtain ⟨k, x, y, n, wd, v, a, c, b⟩ := d
  simp only at hk
  subst hk
  obtain ⟨gx, cx, hxc, hxb⟩ := h.two.cell0
  have hql := h.two.lt
  have hg := fun W hW => aget_any W p g cap l hW x wd
  have hl := fun W hW => xload_any W (some ⟨gx, 0, none⟩) cx l hW x wd
  have HP := Lib.hid (show ∀ w', Fr [] w w' → ActP w p g cap B q l.length (.returned (.bool true)) w' from fun w' hf => ⟨rfl, l, h.fr0 hf, rfl, hf.mono (fun _ hm => by simp at hm)⟩)
  have HD := Lib.hid h
  have HB := Lib.hid hxb
  generalize ActP w p g cap B q l.length = P at *
  generalize ldV l x wd = r at *
  generalize placeE l.length x wd = E at *
  generalize hn : l.length = N at *
  clear h hxb
  show Calls _ _ #[_, _, .agg #[.int .i64 2, .int .i64 x, .int .i64 y, .int .i64 n, .int .i64 wd, .int .u64 v, .slice a b.length c]] _ _
  generalize b.length = bl at *
  go_enter Try.func18, Try.ntmps18
  go_wp2_with fail
  obtain ⟨W1, hW1⟩ : ∃ W1, w.alloc (.cells #[.int .i64 2, .int .i64 x, .int .i64 y, .int .i64 n, .int .i64 wd, .int .u64 v, .slice a bl c] 48) = W1 := ⟨_, rfl⟩
  have bY : Blk W1 w.heap.size 48 #[.int .i64 2, .int .i64 x, .int .i64 y, .int .i64 n, .int .i64 wd, .int .u64 v, .slice a bl c] := by rw [← hW1]; exact Blk.new _ _ _
  have hf1 : Fr [] w W1 := by rw [← hW1]; exact (Fr.refl _ _).alloc _
  rw [hW1]
  clear hW1
  with_reducible refine (hg _ (HD.out.one.fr hf1 (by simp) (by simp))).mono ?_
  rintro e w' ⟨rfl, rfl⟩
  have hq1 := (hf1.cell (p := ⟨q, 0, none⟩) hql (by simp)).trans hxc
  have hY := bY.cell
  go_wp2_with fail
  go_region_held3 (fun W => (∀ i, W.cell? ⟨w.heap.size, i, none⟩ = (#[.int .i64 2, .int .i64 x, .int .i64 y, .int .i64 n, .int .i64 wd, .int .u64 v, .slice a bl c] : Array Value)[i]?) ∧ W.cell? ⟨q, 0, none⟩ = some (.slice (some ⟨gx, 0, none⟩) N cx)) (exact ⟨hY, hq1⟩)
    (first | (go_at_call 30; with_reducible refine (hl _ (HB.out.fr hf1.drew (by simp))).mono ?_; rintro e w2 ⟨rfl, rfl⟩))
  go_wp2_with fail
  exact HP.out _ hf1.drew

/-- Two calls that turn both arenas alike. -/
structure Pair (p g cap B q : Nat) (l l' : List Nat) (E : Nat) (f1 f2 : FuncId) (vs : List Value) (C : World → Prop) : Prop where
  len : l'.length = l.length
  one : ∀ W, IsA W p g cap l → C W → Calls Try.prog f1 (.pointer (some ⟨p, 0, none⟩) :: vs).toArray W fun e w' => e = .returned (.int .i64 E) ∧ IsA w' p g cap l' ∧ Fr [g] W w'
  two : ∀ W, IsXR W B q l → B ≤ W.heap.size → C W → Calls Try.prog f2 (.pointer (some ⟨q, 0, none⟩) :: vs).toArray W fun e w' => e = .returned (.int .i64 E) ∧ IsXR w' B q l' ∧ Fr [q] W w'
theorem IsXR.keep {w w' : World} {B q : Nat} {l : List Nat} (h : IsXR w B q l) (hf : Fr [] w w') : IsXR w' B q l ∧ Fr [q] w w' := ⟨h.fr0 hf, hf.mono (fun _ hm => by simp at hm)⟩
theorem IsA.keep {w w' : World} {p g cap : Nat} {l : List Nat} (h : IsA w p g cap l) (hf : Fr [] w w') : IsA w' p g cap l ∧ Fr [g] w w' := ⟨h.fr hf (by simp) (by simp), hf.mono (fun _ hm => by simp at hm)⟩
theorem fr_eq {w w' : World} (h : w' = w) : Fr [] w w' := h ▸ Fr.refl _ _

theorem pair_put (p g cap B q : Nat) (l : List Nat) (x wd : Int) (v : Nat) (hv : v < 18446744073709551616) :
    Pair p g cap B q l (putL l x wd v) (putE l x wd v) 11 36 [.int .i64 x, .int .i64 wd, .int .u64 v] fun _ => True :=
  ⟨by unfold putL; split <;> simp [putTo_len], fun W h _ => aput_any W p g cap l h x wd v hv, fun W h hB _ => xput10 W B q l h hB x wd v hv⟩
theorem pair_zero (p g cap B q : Nat) (l : List Nat) (x m : Int) : ∃ l' E, Pair p g cap B q l l' E 21 33 [.int .i64 x, .int .i64 m] fun _ => True := by
  by_cases hE : partE l.length x m = 0
  · obtain ⟨y, k, rfl, rfl, hyk⟩ := part_cases hE
    exact ⟨_, 0, by rw [spl_len]; simpa using hyk, fun W h _ => azero_yes W p g cap l h y k hyk, fun W h hB _ => xzero_yes W B q l h hB y k hyk⟩
  · exact ⟨l, 6, rfl, fun W h _ => (azero_no W p g cap l h x m hE).mono fun e w' ⟨he, hw⟩ => ⟨he, h.keep (fr_eq hw)⟩, fun W h hB _ => (xzero_no W B q l h x m hE).mono fun e w' ⟨he, hw⟩ => ⟨he, h.keep (fr_eq hw)⟩⟩
theorem pair_move (p g cap B q : Nat) (l : List Nat) (x y m : Int) : ∃ l' E, Pair p g cap B q l l' E 22 34 [.int .i64 x, .int .i64 y, .int .i64 m] fun _ => True := by
  by_cases hE : partE l.length x m = 0
  · obtain ⟨x, m, rfl, rfl, hxm⟩ := part_cases hE
    by_cases hF : partE l.length y m = 0
    · obtain ⟨y, k, rfl, hk, hyk⟩ := part_cases hF
      have hk : k = m := by omega
      subst hk
      have e : ((l.drop x).take k).length = k := by rw [List.length_take, List.length_drop]; omega
      exact ⟨_, 0, by rw [spl_len]; rw [e]; exact hyk, fun W h _ => amove_yes W p g cap l h x y k hxm hyk, fun W h hB _ => xmove_yes W B q l h hB x y k hxm hyk⟩
    · exact ⟨l, 6, rfl, fun W h _ => (amove_no2 W p g cap l h x m y hxm hF).mono fun e w' ⟨he, hw⟩ => ⟨he, h.keep (fr_eq hw)⟩, fun W h hB _ => (xmove_no2 W B q l h x m y hxm hF).mono fun e w' ⟨he, hw⟩ => ⟨he, h.keep hw⟩⟩
  · exact ⟨l, 6, rfl, fun W h _ => (amove_no1 W p g cap l h x y m hE).mono fun e w' ⟨he, hw⟩ => ⟨he, h.keep (fr_eq hw)⟩, fun W h hB _ => (xmove_no1 W B q l h x y m hE).mono fun e w' ⟨he, hw⟩ => ⟨he, h.keep (fr_eq hw)⟩⟩
theorem pair_write (p g cap B q : Nat) (l : List Nat) (x : Int) (a : Option Addr) (c : Nat) (b : List Nat) (hb : b.length ≤ 3000) : ∃ l' E, Pair p g cap B q l l' E 20 32 [.int .i64 x, .slice a b.length c] fun W => Byt W a b := by
  by_cases hE : partE l.length x b.length = 0
  · obtain ⟨y, k, rfl, hk, hyk⟩ := part_cases hE
    have hk : k = b.length := by omega
    subst hk
    exact ⟨_, 0, spl_len _ _ _ hyk, fun W h hm => awrite_yes W p g cap l h y c a b hm hyk, fun W h hB hm => xwrite_yes W B q l h hB y c a b hm hyk⟩
  · exact ⟨l, 6, rfl, fun W h _ => (awrite_no W p g cap l h x b.length c a hE (by unfold maxLen; omega)).mono fun e w' ⟨he, hw⟩ => ⟨he, h.keep (fr_eq hw)⟩, fun W h hB _ => (xwrite_no W B q l h x b.length c a hE).mono fun e w' ⟨he, hw⟩ => ⟨he, h.keep (fr_eq hw)⟩⟩
end Go.Proofs.Ytcagljjbiodcoaa
