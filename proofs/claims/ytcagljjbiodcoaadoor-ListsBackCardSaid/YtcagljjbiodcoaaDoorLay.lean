/- Package layout of a right config; the tables of class and memory. -/
import Derived.Test.YtcagljjbiodcoaaDoorBytes
import Derived.Deep.RegionHeld3
import Derived.StillTailTactics
import Derived.Laws.StructEq
import Derived.Deep.QuietTactic
namespace Go.Proofs.YtcagljjbiodcoaaDoor
set_option linter.unusedVariables false
open Go.RowKit

def intsZ (l : List Int) : Array Value := (l.map (Value.int .i64)).toArray
def clsT : Array Value := intsZ [0, 32, 48, 64, 96, 128, 192, 256, 384, 512]
def fldT : Array Value := intsZ [8, 12, 16, 20, 24, 28, 32, 36, 40, 44, 48, 52, 56, 60, 64, 68, 72, 80, 84, 88, 92]
/-- The variables of class and memory hold what the program's text lays. -/
structure TabM (w : World) : Prop where
  cls : ∀ i, w.cell? ⟨5, i, none⟩ = clsT[i]?
  fld : ∀ i, w.cell? ⟨0, i, none⟩ = fldT[i]?
  size : 6 ≤ w.heap.size
theorem TabM.fr {w w' : World} {S : List Nat} (h : TabM w) (hf : Fr S w w') (hS : ∀ k ∈ S, 6 ≤ k) : TabM w' :=
  ⟨fun i => (hf.cell (p := ⟨5, i, none⟩) (by have := h.size; simp; omega) (fun hm => by have := hS _ hm; simp at this)).trans (h.cls i),
   fun i => (hf.cell (p := ⟨0, i, none⟩) (by have := h.size; simp; omega) (fun hm => by have := hS _ hm; simp at this)).trans (h.fld i), Nat.le_trans h.size hf.size⟩
theorem TabM.alloc {w : World} (h : TabM w) (o : Obj) : TabM (w.alloc o) := h.fr ((Fr.refl [] w).alloc o) (by simp)

/-- A config that may be: so many slabs and slots. -/
structure Cfg (a s : Nat) : Prop where
  a1 : 7 ≤ a
  a2 : a ≤ 64
  s1 : s % 2 = 0
  s2 : 32 * a ≤ s
  s3 : s ≤ 8192
def cfgV (a s : Nat) : Value := .agg #[.int .i64 a, .int .i64 s]

theorem eqF_cons {P : Program} (d : Nat) (xs ys : Array Value) (f : Field) (fs : List Field) (a b : Value) (r : Bool) (w : World) (hn : f.name ≠ "_") (ha : ∀ w, (part f.type xs f.offset).run P w = .ok a w) (hb : ∀ w, (part f.type ys f.offset).run P w = .ok b w)
    (hr : ∀ w, (Op.equalIn d f.type a b).run P w = .ok r w) (s : Bool) (hs : (Op.eqFields d xs ys fs).run P w = .ok s w) : (Op.eqFields d xs ys (f :: fs)).run P w = .ok (r && s) w := by
  rw [Op.eqFields, if_pos hn]
  cases r <;> simp [Sem.run_bind, ha, hb, hr, hs]
theorem part_i (xs : Array Value) (i : Nat) (v : Value) (h : xs[i]? = some v) (w : World) : (part 3 xs i).run Tryd.prog w = .ok v w := by
  simp [part, go_sem, h, run_underlying Tryd.underlying3]
set_option maxRecDepth 100000 in
theorem eq_cfg (a b c d : Int) (w : World) : (Op.equalIn 10000 33 (.agg #[.int .i64 a, .int .i64 b]) (.agg #[.int .i64 c, .int .i64 d])).run Tryd.prog w = .ok (a == c && b == d) w := by
  rw [show (10000 : Nat) = 9999 + 1 from rfl, run_equalIn_struct w 9999 33 _ _ (by kernel_rfl) (by kernel_rfl)]
  have hF : (Tryd.prog.fieldsOf 33).toList = [⟨"Slabs", 3, 0, false, "", "", 0⟩, ⟨"Slots", 3, 1, false, "", "", 8⟩] := by kernel_rfl
  rw [hF]
  have hi : ∀ (a b : Int) (w : World), (Op.equalIn 9999 3 (.int .i64 a) (.int .i64 b)).run Tryd.prog w = .ok (a == b) w := fun a b w => run_equalIn_int _ 9998 3 .i64 .i64 a b Tryd.underlying3
  refine eqF_cons _ _ _ _ _ (.int .i64 a) (.int .i64 c) _ _ (of_decide_eq_true (by kernel_rfl)) (part_i _ _ _ rfl) (part_i _ _ _ rfl) (fun w => hi _ _ w) _ ?_
  rw [← Bool.and_true (b == d)]
  refine eqF_cons _ _ _ _ _ (.int .i64 b) (.int .i64 d) _ _ (of_decide_eq_true (by kernel_rfl)) (part_i _ _ _ rfl) (part_i _ _ _ rfl) (fun w => hi _ _ w) _ ?_
  rfl

theorem cis_any (w : World) (k : Nat) (hk : 1 ≤ k ∧ k ≤ 9) : Calls Tryd.prog 113 #[.int .i64 k] w fun e w' => e = .returned (.bool true) ∧ w' = w := by
  have b1 : decide ((1 : Int) ≤ k) = true := by simp; omega
  have b2 : decide ((k : Int) ≤ 9) = true := by simp; omega
  go_enter Tryd.func113, Tryd.ntmps113
  go_wp2_with fail
  go_ret
  exact ⟨rfl, rfl⟩
theorem blocks_1 (w : World) (hM : TabM w) : Calls Tryd.prog 87 #[.int .i64 1] w fun e w' => e = .returned (.int .i64 32) ∧ w' = w := by
  have hi : ∀ w, Calls Tryd.prog 113 #[.int .i64 1] w fun e w' => e = .returned (.bool true) ∧ w' = w := fun w => cis_any w 1 (by omega)
  have hc := hM.cls 1
  simp [clsT, intsZ] at hc
  go_enter Tryd.func87, Tryd.ntmps87
  go_wp2_with fail
  with_reducible refine (hi _).mono ?_
  rintro e w' ⟨rfl, rfl⟩
  go_wp2_with fail
  go_ret
  exact ⟨rfl, rfl⟩

set_option maxHeartbeats 1000000 in
theorem lright (w : World) (hM : TabM w) (a s : Nat) (hc : Cfg a s) : Calls Tryd.prog 47 #[cfgV a s] w fun e w' => e = .returned (.bool true) ∧ Fr [] w w' := by
  obtain ⟨a1, a2, s1, s2, s3⟩ := hc
  have hE : ∀ w, (Op.equalIn 10000 33 (.agg #[.int .i64 a, .int .i64 s]) (.agg #[.int .i64 0, .int .i64 0])).run Tryd.prog w = .ok false w := fun w => by
    rw [eq_cfg, show ((a : Int) == 0) = false by simp; omega, Bool.false_and]
  have b1 : decide ((a : Int) < 7) = false := by simp; omega
  have b2 : decide ((64 : Int) < a) = false := by simp; omega
  have b3 : ((s : Int) % 2 == 0) = true := by simp; omega
  have b4 : decide ((a : Int) * 32 ≤ s) = true := by simp; omega
  have b5 : decide ((s : Int) ≤ 8192) = true := by simp; omega
  have hB := fun n => blocks_1 ((w.alloc (.cells #[.int .i64 a, .int .i64 s] 33)).drewN n) ((hM.alloc _).fr ((Fr.refl [] _).drewN n) (by simp))
  unfold cfgV
  go_enter Tryd.func47, Tryd.ntmps47
  go_wp2_with fail
  go_quiet ((go_at_call 87; exact Calls.quiet_of_same (hB _)))
  go_wp2_with fail
  go_ret
  exact ⟨rfl, ((Fr.refl [] w).alloc _).drewN _⟩

def lslots (a : Nat) : Nat := 128 + 16 * a
def lbase (a s : Nat) : Nat := (128 + 16 * a + 4 * s + 15) / 16 * 16
def lsize (a s : Nat) : Nat := lbase a s + 1024 * a
theorem lsize_le (a s : Nat) (h : Cfg a s) : lsize a s ≤ 131072 := by
  obtain ⟨a1, a2, s1, s2, s3⟩ := h
  unfold lsize lbase; omega
theorem lbase_le (a s : Nat) (h : Cfg a s) : lbase a s ≤ 65536 := by
  obtain ⟨a1, a2, s1, s2, s3⟩ := h
  unfold lbase; omega

theorem lslots_any (w : World) (a s : Nat) (h : Cfg a s) : Calls Tryd.prog 115 #[cfgV a s] w fun e w' => e = .returned (.int .i64 (lslots a)) ∧ Fr [] w w' := by
  have h2 := h.a2
  have e : ((lslots a : Nat) : Int) = 128 + (a : Int) * 16 := by unfold lslots; omega
  rw [e]
  unfold cfgV
  go_enter Tryd.func115, Tryd.ntmps115
  go_wp2_with fail
  go_ret
  exact ⟨rfl, (Fr.refl [] w).alloc _⟩
theorem lpadded (w : World) (n : Nat) (h : n ≤ 1048576) : Calls Tryd.prog 114 #[.int .i64 n] w fun e w' => e = .returned (.int .i64 ((n + 15) / 16 * 16 : Nat)) ∧ w' = w := by
  have e : (((n + 15) / 16 * 16 : Nat) : Int) = ((n : Int) + 16 - 1) / 16 * 16 := by omega
  rw [e]
  go_enter Tryd.func114, Tryd.ntmps114
  go_wp2_with fail
  go_ret
  exact ⟨rfl, rfl⟩

set_option maxHeartbeats 1000000 in
theorem lbase_any (w : World) (hM : TabM w) (a s : Nat) (h : Cfg a s) : Calls Tryd.prog 89 #[cfgV a s] w fun e w' => e = .returned (.int .i64 (lbase a s)) ∧ Fr [] w w' := by
  have hr := fun W h' => lright W h' a s h
  have hs := fun W => lslots_any W a s h
  have h2 := h.a2
  have h3 := h.s3
  have hp := fun W => lpadded W (lslots a + 4 * s) (by unfold lslots; omega)
  have e : (lslots a + 4 * s + 15) / 16 * 16 = lbase a s := by unfold lslots lbase; rfl
  rw [e] at hp
  have e2 : ((lslots a + 4 * s : Nat) : Int) = (lslots a : Int) + (s : Int) * 4 := by omega
  rw [e2] at hp
  have hsl : lslots a ≤ 2000 := by unfold lslots; omega
  generalize lbase a s = b at *
  generalize lslots a = sl at *
  unfold cfgV at *
  clear e e2
  go_enter Tryd.func89, Tryd.ntmps89
  go_wp2_with fail
  with_reducible refine (hr _ (hM.alloc _)).mono ?_
  rintro e w1 ⟨rfl, f1⟩
  have hB1 := (Blk.new w 33 #[.int .i64 a, .int .i64 s]).fr f1 (by simp)
  have hF1 := ((Fr.refl [] w).alloc (.cells #[.int .i64 a, .int .i64 s] 33)).trans f1
  have c0 := hB1.cell 0
  have c1 := hB1.cell 1
  simp at c0 c1
  clear f1 hr
  go_wp2_with fail
  have hB2 := hB1.fr (frDrew (S := [])) (by simp)
  have hF2 := hF1.drew
  have u1 : IntKind.i64.wrap ((s : Int) * 4) = (s : Int) * 4 := IntWalk.i64_in _ (by omega)
  have u2 : IntKind.i64.wrap ((sl : Int) + (s : Int) * 4) = (sl : Int) + (s : Int) * 4 := IntWalk.i64_in _ (by omega)
  go_region_held3 (fun w' => w'.cell? ⟨w.heap.size, 0, none⟩ = some (.int .i64 a) ∧ w'.cell? ⟨w.heap.size, 1, none⟩ = some (.int .i64 s)) (exact ⟨c0, c1⟩)
    (first
      | (go_at_call 115; with_reducible refine (hs _).mono ?_; rintro e w3 ⟨rfl, f3⟩; have hF3 := hF2.trans f3; have hB3 := hB2.fr f3 (by simp); have c0 := hB3.cell 0; have c1 := hB3.cell 1; simp at c0 c1)
      | (go_at_call 114; with_reducible refine (hp _).mono ?_; rintro e w' ⟨rfl, rfl⟩))
  go_wp2_with fail
  go_ret
  exact ⟨rfl, hF3⟩

set_option maxHeartbeats 1000000 in
theorem lsize_any (w : World) (hM : TabM w) (a s : Nat) (h : Cfg a s) : Calls Tryd.prog 49 #[cfgV a s] w fun e w' => e = .returned (.int .i64 (lsize a s)) ∧ Fr [] w w' := by
  have hr := fun W h' => lright W h' a s h
  have hb := fun W h' => lbase_any W h' a s h
  have h2 := h.a2
  have hbl := lbase_le a s h
  have e2 : ((lsize a s : Nat) : Int) = (lbase a s : Int) + (a : Int) * 1024 := by unfold lsize; omega
  rw [e2]
  generalize lbase a s = b at *
  unfold cfgV at *
  clear e2
  go_enter Tryd.func49, Tryd.ntmps49
  go_wp2_with fail
  with_reducible refine (hr _ (hM.alloc _)).mono ?_
  rintro e w1 ⟨rfl, f1⟩
  have hM1 := (hM.alloc (.cells #[.int .i64 a, .int .i64 s] 33)).fr f1 (by simp)
  have hB1 := (Blk.new w 33 #[.int .i64 a, .int .i64 s]).fr f1 (by simp)
  have hF1 := ((Fr.refl [] w).alloc (.cells #[.int .i64 a, .int .i64 s] 33)).trans f1
  have c0 := hB1.cell 0
  have c1 := hB1.cell 1
  simp at c0 c1
  clear f1 hr
  go_wp2_with fail
  have hB2 := hB1.fr (frDrew (S := [])) (by simp)
  have hM2 := hM1.fr (frDrew (S := [])) (by simp)
  have hF2 := hF1.drew
  have u1 : IntKind.i64.wrap ((a : Int) * 1024) = (a : Int) * 1024 := IntWalk.i64_in _ (by omega)
  have u2 : IntKind.i64.wrap ((b : Int) + (a : Int) * 1024) = (b : Int) + (a : Int) * 1024 := IntWalk.i64_in _ (by omega)
  go_region_held3 (fun w' => w'.cell? ⟨w.heap.size, 0, none⟩ = some (.int .i64 a) ∧ w'.cell? ⟨w.heap.size, 1, none⟩ = some (.int .i64 s)) (exact ⟨c0, c1⟩)
    (first
      | (go_at_call 89; with_reducible refine (hb _ hM2).mono ?_; rintro e w3 ⟨rfl, f3⟩; have hF3 := hF2.trans f3; have hB3 := hB2.fr f3 (by simp); have c0 := hB3.cell 0; have c1 := hB3.cell 1; simp at c0 c1))
  go_wp2_with fail
  go_ret
  exact ⟨rfl, hF3⟩
end Go.Proofs.YtcagljjbiodcoaaDoor
