/- ref13.Decode: which head bytes are, as the document says. -/
import Derived.Test.YtagnelfnjlfhnaaDoorXTak
import Derived.Test.YtagnelfnjlfhnaaDoorXWith
namespace Go.Proofs.YtagnelfnjlfhnaaDoor
set_option linter.unusedVariables false
open Go.RowKit

def decX (b : List Nat) (t : Int) : Nat → HB
  | 0 => HB.zero
  | k + 1 => if (whZ t k).2 = 0 then decX b t k else (decX b t k).setN (ldTo b (whZ t k).1 (whZ t k).2) k

theorem decX_all (b : List Nat) (t : Nat) (ht : t < 3) : decX b t 12 = HB.ofNums (decN b t) := by
  have hw : ∀ z : Int, IntKind.i64.wrap z = wrap64 z := IntWalk.i64_left
  have h0 : wrap64 0 = 0 := by rw [← hw]; rfl
  rcases t with _ | _ | _ | t <;> try omega
  all_goals
    simp [decX, decN, HB.ofNums, whZ, wh, commonL, ownL, HB.setN, HB.zero, hw, h0]

theorem setN_ok (x : HB) (hx : x.Ok) (n f : Nat) (hn : n < 18446744073709551616) : (x.setN n f).Ok := by
  have hw : ∀ z : Int, -9223372036854775808 ≤ wrap64 z ∧ wrap64 z ≤ 9223372036854775807 := fun z => by rw [← IntWalk.i64_left]; exact wrap64_in z
  obtain ⟨h1, h2, h3, h4, h5, h6, h7, h8, h9, h10, h11⟩ := hx
  rcases f with _ | _ | _ | _ | _ | _ | _ | _ | _ | _ | _ | f <;> constructor <;> simp only [HB.setN] <;> first | assumption | exact hw _ | exact Nat.mod_lt _ (by decide)

set_option maxRecDepth 100000 in
set_option maxHeartbeats 4000000 in
theorem xdecode_e0 (w : World) (a : Option Addr) (c : Nat) :
    Calls Tryd.prog 12 #[.slice a 0 c] w fun e w' => e = .returned (decV (3, HB.zero)) ∧ Fr [] w w' := by
  go_enter Tryd.func12, Tryd.ntmps12
  go_wp2_with fail
  go_returns
  exact ⟨rfl, by repeat (first | exact Fr.refl _ _ | apply Fr.alloc | apply Fr.drew | apply Fr.drewN | (refine Fr.setCell ?_ (Or.inr (by simp)) _))⟩

set_option maxRecDepth 100000 in
set_option maxHeartbeats 4000000 in
theorem xdecode_e1 (w : World) (g o n c b : Nat) (hn : 0 < n) (hn2 : n ≤ 1099511627776) (hc : w.cell? ⟨g, o, none⟩ = some (.int .u8 (b : Int))) (hg : g < w.heap.size) (h2 : 2 < b) (hb : b < 256) :
    Calls Tryd.prog 12 #[.slice (some ⟨g, o, none⟩) n c] w fun e w' => e = .returned (decV (4, HB.zero)) ∧ Fr [] w w' := by
  have b1 : decide ((2 : Int) < (b : Int)) = true := by simp; omega
  have hd0 : ((n : Int) == 0) = false := by simp; omega
  go_enter Tryd.func12, Tryd.ntmps12
  go_wp2_with fail
  go_returns
  exact ⟨rfl, by repeat (first | exact Fr.refl _ _ | apply Fr.alloc | apply Fr.drew | apply Fr.drewN | (refine Fr.setCell ?_ (Or.inr (by simp)) _))⟩

set_option maxRecDepth 100000 in
set_option maxHeartbeats 4000000 in
theorem xdecode_e2 (w : World) (g o n c b : Nat) (hn : 0 < n) (hn2 : n ≤ 1099511627776) (hc : w.cell? ⟨g, o, none⟩ = some (.int .u8 (b : Int))) (hg : g < w.heap.size) (h2 : b ≤ 2) (h3 : n < szZ (b : Nat)) :
    Calls Tryd.prog 12 #[.slice (some ⟨g, o, none⟩) n c] w fun e w' => e = .returned (decV (3, HB.zero)) ∧ Fr [] w w' := by
  have b1 : decide ((2 : Int) < (b : Int)) = false := by simp; omega
  have hd0 : ((n : Int) == 0) = false := by simp; omega
  have hsz := fun W => xsize_any W (b : Nat)
  generalize szZ (b : Nat) = sz at *
  have b3 : decide (n < sz) = true := by simp; omega
  go_enter Tryd.func12, Tryd.ntmps12
  go_wp2_with fail
  with_reducible refine (hsz _).mono ?_
  rintro e w2 ⟨rfl, f2⟩
  have hB2 := (Blk.new w 26 zeroC).fr f2 (by simp)
  have hF2 := ((Fr.refl [] w).alloc (.cells zeroC 26)).trans f2
  have hzz : zeroC = #[.int .i64 0, .int .i64 0, .bool false, .int .i64 0, .int .u32 0, .int .u32 0, .int .u32 0, .int .u32 0, .int .u64 0, .int .u16 0, .int .i64 0, .int .u32 0] := rfl
  rw [hzz] at hB2
  (have d0 := hB2.cell 0; have z0 := hB2.frozen 0; have d1 := hB2.cell 1; have z1 := hB2.frozen 1; have d2 := hB2.cell 2; have z2 := hB2.frozen 2; have d3 := hB2.cell 3; have z3 := hB2.frozen 3; have d4 := hB2.cell 4; have z4 := hB2.frozen 4; have d5 := hB2.cell 5; have z5 := hB2.frozen 5; have d6 := hB2.cell 6; have z6 := hB2.frozen 6; have d7 := hB2.cell 7; have z7 := hB2.frozen 7; have d8 := hB2.cell 8; have z8 := hB2.frozen 8; have d9 := hB2.cell 9; have z9 := hB2.frozen 9; have d10 := hB2.cell 10; have z10 := hB2.frozen 10; have d11 := hB2.cell 11; have z11 := hB2.frozen 11; simp [HB.cells] at d0 d1 d2 d3 d4 d5 d6 d7 d8 d9 d10 d11)
  clear f2 hsz hzz
  go_wp2_with fail
  refine gen12 (fun w9 => bodyPost _ _ _ _ _ w9) hB2 rfl hF2 (.inr (Nat.le_refl _)) ?_
  intro w9 hn9 hf9
  (have q0 := hn9.cell 0; have q1 := hn9.cell 1; have q2 := hn9.cell 2; have q3 := hn9.cell 3; have q4 := hn9.cell 4; have q5 := hn9.cell 5; have q6 := hn9.cell 6; have q7 := hn9.cell 7; have q8 := hn9.cell 8; have q9 := hn9.cell 9; have q10 := hn9.cell 10; have q11 := hn9.cell 11; simp at q0 q1 q2 q3 q4 q5 q6 q7 q8 q9 q10 q11)
  refine bodyPost_ret (by simp [results, Tryd.results12, go_sem, q0, q1, q2, q3, q4, q5, q6, q7, q8, q9, q10, q11]; try rfl) rfl ⟨?_, hf9⟩
  rfl
end Go.Proofs.YtagnelfnjlfhnaaDoor
