/- Layer 10: what is asked of the runtime's one variable; the page's example. -/
import Derived.Test.YtcagljjbiodcoaaArnZ
import Derived.Test.YtcagljjbiodcoaaArnH
import Derived.Test.YtcagljjbiodcoaaX10h
import Derived.Lib.SlBytesConst
namespace Go.Proofs.Ytcagljjbiodcoaa
set_option linter.unusedVariables false
open Go.RowKit

structure Glb (w : World) : Prop where
  ml : ∃ m : Int, w.cell? ⟨0, 0, none⟩ = some (.int .i64 m)
  lt : 0 < w.heap.size
theorem Glb.fr {w w' : World} {S : List Nat} (h : Glb w) (hf : Fr S w w') (hS : ∀ k ∈ S, 0 < k) : Glb w' := by
  obtain ⟨m, hm⟩ := h.ml
  exact ⟨⟨m, (hf.cell (p := ⟨0, 0, none⟩) h.lt (fun hk => by have := hS _ hk; simp at this)).trans hm⟩, Nat.lt_of_lt_of_le h.lt hf.size⟩
theorem Glb.fr0 {w w' : World} (h : Glb w) (hf : Fr [] w w') : Glb w' := h.fr hf (by simp)

/-- Bytes of a literal. -/
theorem byt_mark (w : World) (l : List Nat) (hl : ∀ b ∈ l, b < 256) (hn : l.length ≤ 1099511627776) (fz : Nat × Nat) : Byt (w.alloc (.cells (bytes l) 5 fz)) (some ⟨w.heap.size, 0, none⟩) l :=
  ⟨fun i hi => ⟨_, 0, rfl, by rw [World.cell?_alloc_mark, Nat.zero_add]; exact bytes_get l i hi, by simp⟩, hl, hn⟩

def ex16 : List Nat := [0, 0, 0, 0, 2, 1, 0, 0, 0, 0, 0, 0, 0, 0, 0, 0]
theorem ex_put : putL (List.replicate 16 0) 4 4 258 = ex16 ∧ putE (List.replicate 16 0) 4 4 258 = 0 := by decide
theorem ex_get : ldV ex16 4 2 = 258 ∧ placeE ex16.length 4 2 = 0 := by decide
theorem ex_has : hasB ex16 [2, 1, 0] = true ∧ hasB ex16 [3] = false := by decide

theorem has1 (w : World) (p g cap : Nat) (h : IsA w p g cap ex16) (hG : Glb w) : Calls Try.prog 23 #[.pointer (some ⟨p, 0, none⟩), .slice (some ⟨w.heap.size, 0, none⟩) 3 3] (w.alloc (.cells #[.int .u8 2, .int .u8 1, .int .u8 0] 5 (3, 4)))
    fun e W => e = .returned (.bool true) ∧ Fr [] w W := by
  have f : Fr [] w (w.alloc (.cells (bytes [2, 1, 0]) 5 (3, 4))) := (Fr.refl _ _).alloc _
  obtain ⟨ml, hml⟩ := (hG.fr0 f).ml
  have := ahas_any _ p g cap ex16 (h.fr f (by simp) (by simp)) _ 3 [2, 1, 0] (byt_mark w [2, 1, 0] (by decide) (by decide) (3, 4)) ml hml
  rw [ex_has.1] at this
  exact this.mono fun e W ⟨h1, h2⟩ => ⟨h1, f.trans h2⟩
theorem has2 (w : World) (p g cap : Nat) (h : IsA w p g cap ex16) (hG : Glb w) : Calls Try.prog 23 #[.pointer (some ⟨p, 0, none⟩), .slice (some ⟨w.heap.size, 0, none⟩) 1 1] (w.alloc (.cells #[.int .u8 3] 5 (1, 2)))
    fun e W => e = .returned (.bool false) ∧ Fr [] w W := by
  have f : Fr [] w (w.alloc (.cells (bytes [3]) 5 (1, 2))) := (Fr.refl _ _).alloc _
  obtain ⟨ml, hml⟩ := (hG.fr0 f).ml
  have := ahas_any _ p g cap ex16 (h.fr f (by simp) (by simp)) _ 1 [3] (byt_mark w [3] (by decide) (by decide) (1, 2)) ml hml
  rw [ex_has.2] at this
  exact this.mono fun e W ⟨h1, h2⟩ => ⟨h1, f.trans h2⟩

theorem holds10 (w : World) (hG : Glb w) : Calls Try.prog 7 #[] w fun e w' => e = .returned (.bool true) ∧ Fr [] w w' := by
  have hnew : Calls Try.prog 8 #[.int .i64 16] w _ := anew_yes w 16 (by decide)
  go_enter Try.func7, Try.ntmps7
  go_wp2_with fail
  with_reducible refine hnew.mono ?_
  rintro e w1 ⟨p, g, rfl, h1, hp, hg, f1⟩
  have hput : Calls Try.prog 11 #[.pointer (some ⟨p, 0, none⟩), .int .i64 4, .int .i64 4, .int .u64 258] w1 _ := aput_any w1 p g 16 _ h1 4 4 258 (by decide)
  rw [ex_put.1, ex_put.2] at hput
  clear hnew h1
  go_wp2_with fail
  with_reducible refine hput.mono ?_
  rintro e w2 ⟨rfl, h2, f2⟩
  have hget : Calls Try.prog 12 #[.pointer (some ⟨p, 0, none⟩), .int .i64 4, .int .i64 2] w2 _ := aget_any w2 p g 16 _ h2 4 2
  rw [ex_get.1, ex_get.2] at hget
  have hview : Calls Try.prog 15 #[.pointer (some ⟨p, 0, none⟩), .int .i64 4, .int .i64 1] w2 _ := aview_yes w2 p g 16 _ h2 4 1 (by decide)
  clear hput
  go_wp2_with fail
  with_reducible refine hget.mono ?_
  rintro e w' ⟨rfl, rfl⟩
  go_wp2_with fail
  have hby : Byt _ (some ⟨g, partO 4 1, none⟩) [2] := h2.part 4 1 (by decide)
  with_reducible refine hview.mono ?_
  rintro e w' ⟨rfl, rfl⟩
  have hcv := conv_str _ _ 1 _ hby
  have hlen := alen_any _ p g 16 _ h2
  have hs : strOf [2] = ⟨#[2]⟩ := rfl
  rw [hs] at hcv
  simp only [List.length_singleton] at hcv
  have hlen' : Calls Try.prog 14 #[.pointer (some ⟨p, 0, none⟩)] _ fun e w' => e = .returned (.int .i64 16) ∧ w' = _ := hlen
  have kc := fun (w : World) (C : Array Value) (n c : Nat) => Lib.run_convert_bytes_const (P := Try.prog) w 28 5 C n c Try.underlying28 Try.underlying5
  clear hby hlen hget hview
  go_wp2_with fail
  with_reducible refine hlen'.mono ?_
  rintro e w' ⟨rfl, rfl⟩
  clear hlen'
  have hG2 := (hG.fr0 f1).fr f2 (by have := hG.lt; simp; omega)
  go_wp2_with fail
  with_reducible refine (has1 _ p g 16 h2 hG2).mono ?_
  rintro e w3 ⟨rfl, f3⟩
  go_wp2_with fail
  with_reducible refine (has2 _ p g 16 (h2.fr f3 (by simp) (by simp)) (hG2.fr0 f3)).mono ?_
  rintro e w4 ⟨rfl, f4⟩
  go_wp2_with fail
  go_ret
  exact ⟨rfl, ((f1.step f2 (by simp; omega)).trans f3).trans f4⟩
end Go.Proofs.Ytcagljjbiodcoaa
