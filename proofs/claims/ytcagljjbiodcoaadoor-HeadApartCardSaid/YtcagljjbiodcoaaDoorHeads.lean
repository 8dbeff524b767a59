/- The page's example of layer 13 holds (heads). -/
import Derived.Test.YtcagljjbiodcoaaDoorHeq
namespace Go.Proofs.YtcagljjbiodcoaaDoor
set_option linter.unusedVariables false
open Go.RowKit

set_option maxRecDepth 100000 in
set_option maxHeartbeats 8000000 in
theorem heads_any (w : World) (hT : Tabs w) : Calls Tryd.prog 26 #[] w fun e w' => e = .returned (.bool true) ∧ Fr [] w w' := by
  have hen : ∀ W, Tabs W → Calls Tryd.prog 63 #[.agg #[.int .i64 2, .int .i64 1, .bool false, .int .i64 3, .int .u32 5, .int .u32 0, .int .u32 0, .int .u32 1, .int .u64 0, .int .u16 0, .int .i64 0, .int .u32 7]] W fun e w' => ∃ g : Nat, e = .returned (.tuple #[.slice (some ⟨g, 0, none⟩) 16 16, .int .i64 0]) ∧ Blk w' g 5 (bytes [2, 1, 0, 3, 5, 0, 0, 0, 1, 0, 0, 0, 7, 0, 0, 0]) ∧ W.heap.size ≤ g ∧ Fr [] W w' := fun W h => by
    have := encode_yes W h exH exH_ok exH_right
    unfold EncP at this
    rw [exH_enc] at this
    exact this
  have hde : ∀ W g, Tabs W → Byt W (some ⟨g, 0, none⟩) [2, 1, 0, 3, 5, 0, 0, 0, 1, 0, 0, 0, 7, 0, 0, 0] → Calls Tryd.prog 64 #[.slice (some ⟨g, 0, none⟩) 16 16] W fun e w' => e = .returned (.tuple #[.agg #[.int .i64 2, .int .i64 1, .bool false, .int .i64 3, .int .u32 5, .int .u32 0, .int .u32 0, .int .u32 1, .int .u64 0, .int .u16 0, .int .i64 0, .int .u32 7], .int .i64 0]) ∧ Fr [] W w' := fun W g h hb => by
    have := decode_any W h (some ⟨g, 0, none⟩) 16 [2, 1, 0, 3, 5, 0, 0, 0, 1, 0, 0, 0, 7, 0, 0, 0] hb
    rw [exH_dec] at this
    exact this
  have hd3 : ∀ W g, Tabs W → Byt W (some ⟨g, 0, none⟩) [3] → Calls Tryd.prog 64 #[.slice (some ⟨g, 0, none⟩) 1 1] W fun e w' => e = .returned (.tuple #[.agg #[.int .i64 0, .int .i64 0, .bool false, .int .i64 0, .int .u32 0, .int .u32 0, .int .u32 0, .int .u32 0, .int .u64 0, .int .u16 0, .int .i64 0, .int .u32 0], .int .i64 4]) ∧ Fr [] W w' := fun W g h hb => by
    have := decode_any W h (some ⟨g, 0, none⟩) 1 [3] hb
    rw [show dec [3] = (4, HB.zero) from rfl] at this
    exact this
  have hwh : ∀ W, Tabs W → Calls Tryd.prog 30 #[.int .i64 1, .int .i64 7] W fun e w' => e = .returned (.tuple #[.int .i64 16, .int .i64 8]) ∧ Fr [] W w' := fun W h => where_any W h 1 7
  have hsi : ∀ W, Tabs W → Calls Tryd.prog 65 #[.int .i64 1] W fun e w' => e = .returned (.int .i64 32) ∧ w' = W := fun W h => size_any W h 1
  have hE : ∀ w, (Op.equalIn 10000 43 (.agg #[.int .i64 2, .int .i64 1, .bool false, .int .i64 3, .int .u32 5, .int .u32 0, .int .u32 0, .int .u32 1, .int .u64 0, .int .u16 0, .int .i64 0, .int .u32 7]) (.agg #[.int .i64 2, .int .i64 1, .bool false, .int .i64 3, .int .u32 5, .int .u32 0, .int .u32 0, .int .u32 1, .int .u64 0, .int .u16 0, .int .i64 0, .int .u32 7])).run Tryd.prog w = .ok true w := fun w => by
    have := eq_head exH exH w
    rw [show exH.same exH = true from rfl] at this
    exact this
  have hcv : ∀ W g, Byt W (some ⟨g, 0, none⟩) [2, 1, 0, 3, 5, 0, 0, 0, 1, 0, 0, 0, 7, 0, 0, 0] → (convert 63 9 (.slice (some ⟨g, 0, none⟩) 16 16)).run Tryd.prog W = .ok (.string (strOf [2, 1, 0, 3, 5, 0, 0, 0, 1, 0, 0, 0, 7, 0, 0, 0])) W := fun W g h => conv_str W (some ⟨g, 0, none⟩) 16 [2, 1, 0, 3, 5, 0, 0, 0, 1, 0, 0, 0, 7, 0, 0, 0] h
  have hby : ∀ b ∈ ([2, 1, 0, 3, 5, 0, 0, 0, 1, 0, 0, 0, 7, 0, 0, 0] : List Nat), b < 256 := by decide
  have hb3 : ∀ b ∈ ([3] : List Nat), b < 256 := by decide
  go_enter Tryd.func26, Tryd.ntmps26
  go_wp2_with fail
  with_reducible refine (hen _ (hT.alloc _)).mono ?_
  rintro e w1 ⟨g, rfl, hG, hgl, f1⟩
  have hT1 : Tabs w1 := (hT.alloc _).fr f1 (by simp)
  have hX1 : Blk w1 w.heap.size 43 #[.int .i64 2, .int .i64 1, .bool false, .int .i64 3, .int .u32 5, .int .u32 0, .int .u32 0, .int .u32 1, .int .u64 0, .int .u16 0, .int .i64 0, .int .u32 7] := (Blk.new w _ _).fr f1 (by simp)
  have hF1 : Fr [] w w1 := ((Fr.refl [] w).alloc _).trans f1
  clear f1 hgl hen
  go_wp2_with fail
  with_reducible refine (hde _ _ hT1 (hG.byt hby (by decide))).mono ?_
  rintro e w2 ⟨rfl, f2⟩
  have hT2 := (hT1.fr f2 (by simp)).alloc (.cells #[.int .i64 2, .int .i64 1, .bool false, .int .i64 3, .int .u32 5, .int .u32 0, .int .u32 0, .int .u32 1, .int .u64 0, .int .u16 0, .int .i64 0, .int .u32 7] 43)
  have hX2 := (hX1.fr f2 (by simp)).alloc (.cells #[.int .i64 2, .int .i64 1, .bool false, .int .i64 3, .int .u32 5, .int .u32 0, .int .u32 0, .int .u32 1, .int .u64 0, .int .u16 0, .int .i64 0, .int .u32 7] 43)
  have hG2 := (hG.fr f2 (by simp)).alloc (.cells #[.int .i64 2, .int .i64 1, .bool false, .int .i64 3, .int .u32 5, .int .u32 0, .int .u32 0, .int .u32 1, .int .u64 0, .int .u16 0, .int .i64 0, .int .u32 7] 43)
  have hF2 := (hF1.trans f2).alloc (.cells #[.int .i64 2, .int .i64 1, .bool false, .int .i64 3, .int .u32 5, .int .u32 0, .int .u32 0, .int .u32 1, .int .u64 0, .int .u16 0, .int .i64 0, .int .u32 7] 43)
  have hY2 : Blk (w2.alloc (.cells #[.int .i64 2, .int .i64 1, .bool false, .int .i64 3, .int .u32 5, .int .u32 0, .int .u32 0, .int .u32 1, .int .u64 0, .int .u16 0, .int .i64 0, .int .u32 7] 43)) w2.heap.size 43 #[.int .i64 2, .int .i64 1, .bool false, .int .i64 3, .int .u32 5, .int .u32 0, .int .u32 0, .int .u32 1, .int .u64 0, .int .u16 0, .int .i64 0, .int .u32 7] := Blk.new _ _ _
  clear f2 hde hT1 hX1 hG hF1
  go_wp2_with fail
  obtain ⟨W2, hW2⟩ : ∃ W2, W2 = w2.alloc (.cells #[.int .i64 2, .int .i64 1, .bool false, .int .i64 3, .int .u32 5, .int .u32 0, .int .u32 0, .int .u32 1, .int .u64 0, .int .u16 0, .int .i64 0, .int .u32 7] 43) := ⟨_, rfl⟩
  have hz : w2.heap.size + 1 = W2.heap.size := by rw [hW2, World.size_alloc]
  rw [← hW2] at hT2 hX2 hG2 hF2 hY2 ⊢
  rw [hz]
  clear hW2
  generalize w2.heap.size = p2 at *
  have hT3 := hT2.alloc (.cells #[.int .u8 3] 5)
  have hX3 := hX2.alloc (.cells #[.int .u8 3] 5)
  have hG3 := hG2.alloc (.cells #[.int .u8 3] 5)
  have hF3 := hF2.alloc (.cells #[.int .u8 3] 5)
  have hY3 := hY2.alloc (.cells #[.int .u8 3] 5)
  have hN3 : Blk (W2.alloc (.cells #[.int .u8 3] 5)) W2.heap.size 5 (bytes [3]) := Blk.new _ _ _
  clear hT2 hX2 hG2 hF2 hY2
  with_reducible refine (hd3 _ _ hT3 (hN3.byt hb3 (by decide))).mono ?_
  rintro e w4 ⟨rfl, f4⟩
  have hT4 := (hT3.fr f4 (by simp)).alloc (.cells #[.int .i64 0, .int .i64 0, .bool false, .int .i64 0, .int .u32 0, .int .u32 0, .int .u32 0, .int .u32 0, .int .u64 0, .int .u16 0, .int .i64 0, .int .u32 0] 43)
  have hX4 := (hX3.fr f4 (by simp)).alloc (.cells #[.int .i64 0, .int .i64 0, .bool false, .int .i64 0, .int .u32 0, .int .u32 0, .int .u32 0, .int .u32 0, .int .u64 0, .int .u16 0, .int .i64 0, .int .u32 0] 43)
  have hG4 := (hG3.fr f4 (by simp)).alloc (.cells #[.int .i64 0, .int .i64 0, .bool false, .int .i64 0, .int .u32 0, .int .u32 0, .int .u32 0, .int .u32 0, .int .u64 0, .int .u16 0, .int .i64 0, .int .u32 0] 43)
  have hF4 := (hF3.trans f4).alloc (.cells #[.int .i64 0, .int .i64 0, .bool false, .int .i64 0, .int .u32 0, .int .u32 0, .int .u32 0, .int .u32 0, .int .u64 0, .int .u16 0, .int .i64 0, .int .u32 0] 43)
  have hY4 := (hY3.fr f4 (by simp)).alloc (.cells #[.int .i64 0, .int .i64 0, .bool false, .int .i64 0, .int .u32 0, .int .u32 0, .int .u32 0, .int .u32 0, .int .u64 0, .int .u16 0, .int .i64 0, .int .u32 0] 43)
  clear f4 hd3 hT3 hX3 hG3 hF3 hY3 hN3 hz
  go_wp2_with fail
  with_reducible refine (hwh _ hT4).mono ?_
  rintro e w5 ⟨rfl, f5⟩
  have hT5 := hT4.fr f5 (by simp)
  have hX5 := hX4.fr f5 (by simp)
  have hG5 := hG4.fr f5 (by simp)
  have hF5 := hF4.trans f5
  have hY5 := hY4.fr f5 (by simp)
  clear f5 hwh hT4 hX4 hG4 hF4 hY4
  have hc5 := hcv _ _ (hG5.byt hby (by decide))
  have hst : strOf [2, 1, 0, 3, 5, 0, 0, 0, 1, 0, 0, 0, 7, 0, 0, 0] = { data := #[2, 1, 0, 3, 5, 0, 0, 0, 1, 0, 0, 0, 7, 0, 0, 0] } := rfl
  rw [hst] at hc5
  (have c0 := hX5.cell 0; have c1 := hX5.cell 1; have c2 := hX5.cell 2; have c3 := hX5.cell 3; have c4 := hX5.cell 4; have c5 := hX5.cell 5; have c6 := hX5.cell 6; have c7 := hX5.cell 7; have c8 := hX5.cell 8; have c9 := hX5.cell 9; have c10 := hX5.cell 10; have c11 := hX5.cell 11; simp at c0 c1 c2 c3 c4 c5 c6 c7 c8 c9 c10 c11)
  (have d0 := hY5.cell 0; have d1 := hY5.cell 1; have d2 := hY5.cell 2; have d3 := hY5.cell 3; have d4 := hY5.cell 4; have d5 := hY5.cell 5; have d6 := hY5.cell 6; have d7 := hY5.cell 7; have d8 := hY5.cell 8; have d9 := hY5.cell 9; have d10 := hY5.cell 10; have d11 := hY5.cell 11; simp at d0 d1 d2 d3 d4 d5 d6 d7 d8 d9 d10 d11)
  clear hst hcv hby hb3
  go_wp2_with (go_at_call 65; with_reducible refine (hsi _ hT5).mono ?_; rintro e w' ⟨rfl, rfl⟩)
  go_ret
  exact ⟨rfl, hF5⟩
end Go.Proofs.YtcagljjbiodcoaaDoor
