/- Several texts in one. -/
import Derived.Test.YtgoogihfggndpaaGreatDoorGA
import Derived.Test.YtgoogihfggndpaaGreatDoorGH
import Derived.Test.YtgoogihfggndpaaGreatDoorGB
import Derived.Test.YtgoogihfggndpaaGreatDoorGI
import Derived.Test.YtgoogihfggndpaaGreatDoorGD
/- The document's slabs in memory: rows of numbers that belong to it. -/
namespace Go.Proofs.YtgoogihfggndpaaGreatDoor
set_option linter.unusedVariables false
set_option linter.unusedSimpArgs false
open Go.RowKit

end Go.Proofs.YtgoogihfggndpaaGreatDoor

/- The document's classes: Size, Blocks. -/
namespace Go.Proofs.YtgoogihfggndpaaGreatDoor
set_option linter.unusedVariables false
set_option linter.unusedSimpArgs false
open Go.RowKit

theorem csz_doc : ∀ c, c < 10 → 1 ≤ c → csz c = (if c % 2 = 0 then 32 * 2 ^ ((c - 1) / 2) + 32 * 2 ^ ((c - 1) / 2) / 2 else 32 * 2 ^ ((c - 1) / 2)) ∧ 32 * 2 ^ ((c - 1) / 2) ≤ 512 := by decide
theorem pow_le (j m : Nat) (h : j ≤ m) : 32 * 2 ^ j ≤ 32 * 2 ^ m := Nat.mul_le_mul_left _ (Nat.pow_le_pow_right (by decide) h)
section
variable {w : World}
set_option maxRecDepth 100000 in
set_option maxHeartbeats 1000000 in
theorem xsize8 (c : Int) : Calls Tryz.prog 113 #[.int .i64 c] w fun e w' => e = .returned (.int .i64 (cszZ c)) ∧ w' = w := by
  unfold cszZ
  by_cases h : 1 ≤ c ∧ c ≤ 9
  · rw [if_pos h]
    obtain ⟨k, rfl⟩ : ∃ k : Nat, c = k := ⟨c.toNat, by omega⟩
    rw [Int.toNat_natCast]
    obtain ⟨hd, hb⟩ := csz_doc k (by omega) (by omega)
    have b1 : decide ((k : Int) < 1) = false := by simp; omega
    have b1' : decide (k < 1) = false := by simp; omega
    have b2 : decide ((9 : Int) < k) = false := by simp; omega
    have b2' : decide (9 < k) = false := by simp; omega
    have hk : 1 ≤ k ∧ k ≤ 9 := by omega
    have HD := Lib.hid hd
    have HB := Lib.hid hb
    clear h hd hb
    go_enter Tryz.func113, Tryz.ntmps113
    go_wp2_with fail
    go_loop [3, 4] (fun n i => ∃ j : Nat, j ≤ (k - 1) / 2 ∧ i = .int .i64 ((3 + 2 * j : Nat) : Int) ∧ n = .int .i64 ((32 * 2 ^ j : Nat) : Int)) (fun _ i => 100 - (intOf i).toNat)
    case atStart => exact ⟨0, Nat.zero_le _, rfl, rfl⟩
    case round =>
      obtain ⟨j, hj, rfl, rfl⟩ := hrel
      have hp := Nat.le_trans (pow_le j _ hj) HB.out
      by_cases hlt : j < (k - 1) / 2
      · have c1 : decide (((3 + 2 * j : Nat) : Int) ≤ k) = true := by simp; omega
        have c1' : decide (3 + 2 * j ≤ k) = true := by simp; omega
        have c2 : decide (3 + 2 * (j : Int) ≤ k) = true := by simp; omega
        have e1 : 2 ^ (j + 1) = 2 * 2 ^ j := by rw [Nat.pow_succ]; omega
        have e2 : ((32 * 2 ^ (j + 1) : Nat) : Int) = 2 * ((32 * 2 ^ j : Nat) : Int) := by rw [e1]; omega
        have HE := Lib.hid e2
        have e3 : ((3 + 2 * (j + 1) : Nat) : Int) = ((3 + 2 * j : Nat) : Int) + 2 := by omega
        have HE3 := Lib.hid e3
        have hx : 3 + 2 * j ≤ 9 := by omega
        clear e1 e2 e3
        generalize hN : 32 * 2 ^ j = N at *
        generalize hI : 3 + 2 * j = I at *
        have w1 : IntKind.i64.wrap (2 * (N : Int)) = 2 * (N : Int) := IntWalk.i64_in _ (by omega)
        have w2 : IntKind.i64.wrap ((I : Int) + 2) = (I : Int) + 2 := IntWalk.i64_in _ (by omega)
        clear hN hI
        go_wp2_with fail
        go_round
        case rel => exact ⟨j + 1, by omega, by rw [HE3.out], by rw [HE.out]⟩
        case measure => simp [intOf]; omega
      · have hj2 : j = (k - 1) / 2 := by omega
        have c1 : decide (((3 + 2 * j : Nat) : Int) ≤ k) = false := by simp; omega
        have c1' : decide (3 + 2 * j ≤ k) = false := by simp; omega
        have hd := HD.out
        rw [← hj2] at hd
        generalize hN : 32 * 2 ^ j = N at *
        generalize hI : 3 + 2 * j = I at *
        by_cases hp2 : k % 2 = 0
        · have d1 : (((k : Int) % 2) == 0) = true := by simp; omega
          rw [if_pos hp2] at hd
          have w1 : IntKind.i64.wrap ((N : Int) + (N : Int) / 2) = (csz k : Int) := by
            rw [IntWalk.i64_in _ (by omega)]; omega
          clear hd hj2 hj hlt hp2 hN hI
          go_wp2_with fail
          go_ret
          exact ⟨rfl, rfl⟩
        · have d1 : (((k : Int) % 2) == 0) = false := by simp; omega
          rw [if_neg hp2] at hd
          have HD2 := Lib.hid hd
          clear hd hj2 hj hlt hp2 hN hI
          go_wp2_with fail
          go_ret
          exact ⟨(by rw [HD2.out]; rfl), rfl⟩
  · rw [if_neg h]
    have hcc : decide (c < 1) = true ∨ (decide (c < 1) = false ∧ decide (9 < c) = true) := by
      simp only [decide_eq_true_eq, decide_eq_false_iff_not]; omega
    clear h
    rcases hcc with b1 | ⟨b1, b2⟩
    all_goals
      go_enter Tryz.func113, Tryz.ntmps113
      go_wp2_with fail
      go_ret
      exact ⟨rfl, rfl⟩
theorem nbk_iff (c n : Nat) (h : 1 ≤ c ∧ c ≤ 9) : (n + 1) * csz c ≤ 1024 ↔ n < nbk c := by
  obtain ⟨c1, c2, c3, _⟩ := csz_tab c h.1 h.2
  unfold nbk
  rw [if_neg (by omega)]
  exact (Nat.le_div_iff_mul_le (by omega)).symm
set_option maxRecDepth 100000 in
set_option maxHeartbeats 1000000 in
theorem xblocks8 (c : Int) : Calls Tryz.prog 114 #[.int .i64 c] w fun e w' => e = .returned (.int .i64 (nbkZ c)) ∧ w' = w := by
  have hs := fun W => xsize8 (w := W) c
  unfold nbkZ
  unfold cszZ at hs
  by_cases h : 1 ≤ c ∧ c ≤ 9
  · rw [if_pos h]
    rw [if_pos h] at hs
    obtain ⟨k, rfl⟩ : ∃ k : Nat, c = k := ⟨c.toNat, by omega⟩
    rw [Int.toNat_natCast] at hs ⊢
    obtain ⟨c1, c2, c3, c4, c5, _⟩ := csz_tab k (by omega) (by omega)
    have HI := Lib.hid (fun n => nbk_iff k n (by omega))
    have b0 : decide ((0 : Int) < csz k) = true := by simp; omega
    have b0' : decide (0 < csz k) = true := by simp; omega
    generalize nbk k = N at *
    generalize csz k = s at *
    clear h
    go_enter Tryz.func114, Tryz.ntmps114
    go_wp2_with fail
    go_loop [3] (fun i => ∃ j : Nat, j ≤ N ∧ i = .int .i64 j) (fun i => N - (intOf i).toNat)
    case atStart => exact ⟨0, Nat.zero_le _, rfl⟩
    case round =>
      obtain ⟨j, hj, rfl⟩ := hrel
      have w1 : IntKind.i64.wrap ((j : Int) + 1) = (j : Int) + 1 := IntWalk.i64_in _ (by omega)
      have hle : (j + 1) * s ≤ 33 * 512 := Nat.mul_le_mul (by omega) c3
      have w2 : IntKind.i64.wrap (((j : Int) + 1) * s) = (((j + 1) * s : Nat) : Int) := by
        rw [Int.natCast_mul, Int.natCast_add]
        exact IntWalk.i64_in _ (by
          have : (((j + 1) * s : Nat) : Int) = ((j : Int) + 1) * s := by rw [Int.natCast_mul, Int.natCast_add]; rfl
          omega)
      have hi := HI.out j
      generalize (j + 1) * s = v at *
      by_cases hlt : j < N
      · have b1 : decide ((v : Int) ≤ 1024) = true := by simp; omega
        have b1' : decide (v ≤ 1024) = true := by simp; omega
        clear hi hle
        go_wp2_with fail
        with_reducible refine (hs _).mono ?_
        rintro e w' ⟨rfl, rfl⟩
        go_wp2_with fail
        with_reducible refine (hs _).mono ?_
        rintro e w' ⟨rfl, rfl⟩
        go_wp2_with fail
        go_round
        case rel => exact ⟨j + 1, by omega, by go_num⟩
        case measure => simp [intOf]; omega
      · obtain rfl : j = N := by omega
        have b1 : decide ((v : Int) ≤ 1024) = false := by simp; omega
        have b1' : decide (v ≤ 1024) = false := by simp; omega
        clear hi hle
        go_wp2_with fail
        with_reducible refine (hs _).mono ?_
        rintro e w' ⟨rfl, rfl⟩
        go_wp2_with fail
        with_reducible refine (hs _).mono ?_
        rintro e w' ⟨rfl, rfl⟩
        go_wp2_with fail
        go_ret
        exact ⟨rfl, rfl⟩
  · rw [if_neg h]
    rw [if_neg h] at hs
    clear h
    go_enter Tryz.func114, Tryz.ntmps114
    go_wp2_with fail
    go_loop [3] (fun i => i = .int .i64 0) (fun i => 1)
    case atStart => exact rfl
    case round =>
      subst hrel
      go_wp2_with fail
      with_reducible refine (hs _).mono ?_
      rintro e w' ⟨rfl, rfl⟩
      go_wp2_with fail
      go_ret
      exact ⟨rfl, rfl⟩
end
end Go.Proofs.YtgoogihfggndpaaGreatDoor

/- The document's layout: Right, Runs, Base, SlabAt, Slab. -/
namespace Go.Proofs.YtgoogihfggndpaaGreatDoor
set_option linter.unusedVariables false
set_option linter.unusedSimpArgs false
open Go.RowKit

section
variable {w : World}
set_option maxRecDepth 100000 in
theorem xright9 (a s : Nat) (h : Cfg a s) : Calls Tryz.prog 8 #[.agg #[.int .i64 a, .int .i64 s]] w fun e w' => e = .returned (.bool true) ∧ Fr [] w w' := by
  obtain ⟨a1, a2, s1, s2, s3⟩ := h
  have b1 : decide ((7 : Int) ≤ a) = true := by simp; omega
  have b1' : decide (7 ≤ a) = true := by simp; omega
  have b2 : decide ((a : Int) ≤ 64) = true := by simp; omega
  have b2' : decide (a ≤ 64) = true := by simp; omega
  have b3 : (((s : Int) % 2) == 0) = true := by simp; omega
  have w1 : IntKind.i64.wrap (32 * (a : Int)) = 32 * (a : Int) := IntWalk.i64_in _ (by omega)
  have b4 : decide (32 * (a : Int) ≤ s) = true := by simp; omega
  have b5 : decide ((s : Int) ≤ 8192) = true := by simp; omega
  have b5' : decide (s ≤ 8192) = true := by simp; omega
  have B0 := Blk.new w 23 #[.int .i64 a, .int .i64 s]
  (have d0 := B0.cell 0; have d1 := B0.cell 1; simp at d0 d1)
  have g1 : (0 : Int) ≤ s := by omega
  have g2 : (s : Int) ≤ 8192 := by omega
  clear s1 s2 B0
  go_enter Tryz.func8, Tryz.ntmps8
  go_wp2_with fail
  go_ret
  exact ⟨rfl, (Fr.refl [] w).alloc _⟩
/-- The document's parts of an arena but for the last one. -/
def rrun3 (a : Nat) : List Rn := [(0, 8, 1), (8, 120, 2), (128, 16 * a, 3)]
def rrun4 (a s : Nat) : List Rn := rrun3 a ++ [(128 + 16 * a, 4 * s, 4)]
def rpad (a s : Nat) : Nat := lbase a s - (128 + 16 * a + 4 * s)
def rrun5 (a s : Nat) : List Rn := if 0 < rpad a s then rrun4 a s ++ [(128 + 16 * a + 4 * s, rpad a s, 8)] else rrun4 a s
def rruns (a s : Nat) : List Rn := rrun5 a s ++ [(lbase a s, 1024 * a, 7)]
theorem OwnR.made {base g : Nat} {l : List Rn} {n : Nat} (hn : l.length = n) (hb : base ≤ g) (h : Blk w g 84 (rCells l).toArray) (hl : n ≤ 1048576) : OwnR w base (.slice (some ⟨g, 0, none⟩) n n) l := by
  subst hn
  refine ⟨by rw [rCells_len]; omega, .inr ⟨g, l.length, (rCells l).toArray, rfl, hb, h, Nat.le_refl _, by unfold maxLen; omega, by simp [rCells_len]; omega, ?_⟩⟩
  simp only [List.toList_toArray]
  exact List.take_of_length_le (by rw [rCells_len]; omega)
theorem ownR_base {w : World} {base base' : Nat} {v : Value} {l : List Rn} (hb : base ≤ base') (h : OwnR w base' v l) : OwnR w base v l := by
  obtain ⟨h1, h2⟩ := h
  refine ⟨h1, h2.imp id ?_⟩
  rintro ⟨g, cap, cs, e, hg, r⟩
  exact ⟨g, cap, cs, e, by omega, r⟩
theorem Blk.new2 (w : World) (o : Obj) (t : TypeId) (cs : Array Value) : Blk ((w.alloc o).alloc (.cells cs t)) (w.heap.size + 1) t cs := by
  have := Blk.new (w.alloc o) t cs
  rwa [World.size_alloc] at this
theorem own_box {w w' : World} {base n size : Nat} {e : TypeId} {v : Value} {xs : List Value} (h : w.ownsRow base e size v n xs) (hg : w.grownBy w' v.ownBlock) {b : Nat} {t : TypeId} {cs : Array Value} (hb : Blk w b t cs) (hlt : b < base) : Blk w' b t cs := by
  refine (hg.block b hb.lt (fun e' => ?_)).trans hb
  have := (h.lt b e'.symm).1
  omega
theorem wpList_appR2 {w : World} {ops : Array Oper} {rest : List Oper} {o : Oper} {a : Act} {Q : Exit → Act → World → Prop} (hgd : o.guard = none) (s x : Operand) (ho : o.op = .call { callee := .builtin .append, args := #[s, x], argTypes := #[37, 37] }) (hty : o.type = 37)
    (base : Nat) (v : Value) (l : List Rn) (hs : a.eval s = v) (hown : OwnR w base v l) (g : Nat) (r : Rn) (hx : a.eval x = .slice (some ⟨g, 0, none⟩) 1 1) (hg : Blk w g 84 #[.int .i64 r.1, .int .i64 r.2.1, .int .i64 r.2.2])
    (hl : l.length ≤ 1048576) (hbase : base ≤ w.heap.size)
    (h : ∀ v' w', OwnR w' base v' (l ++ [r]) → (∀ w0, Fr [] w0 w → w0.heap.size ≤ base → Fr [] w0 w') → (∀ b t cs, Blk w b t cs → b < base → Blk w' b t cs) → base ≤ w'.heap.size → wpList Tryz.prog ops Q rest (a.put o.dst v') w') : wpList Tryz.prog ops Q (o :: rest) a w :=
  wpList_appR hgd s x ho hty base v l hs hown g r hx hg hl hbase fun v' w' h1 h2 _ => h v' w' h1 (fun w0 hf hb => own_fr hown h2 hf hb) (fun b t cs hb hlt => own_box hown h2 hb hlt) (Nat.le_trans hbase h2.size)
set_option maxRecDepth 100000 in
set_option maxHeartbeats 4000000 in
theorem xruns9 (a s : Nat) (h : Cfg a s) : Calls Tryz.prog 52 #[.agg #[.int .i64 a, .int .i64 s]] w (RunsP w (rruns a s)) := by
  have hr := xright9 (w := w.alloc (.cells #[.int .i64 a, .int .i64 s] 23)) a s h
  obtain ⟨a1, a2, s1, s2, s3⟩ := h
  have hP : rpad a s ≤ 15 ∧ 128 + 16 * a + 4 * s + rpad a s = lbase a s ∧ (128 + 16 * a + 4 * s + rpad a s) % 16 = 0 := by unfold rpad lbase; omega
  have hmin : ∀ j, j < rpad a s → (128 + 16 * a + 4 * s + j) % 16 ≠ 0 := fun j hj => by unfold rpad lbase at hj; omega
  have h3 : (rCells (rrun3 a)) = [.int .i64 0, .int .i64 8, .int .i64 1, .int .i64 8, .int .i64 120, .int .i64 2, .int .i64 128, .int .i64 (16 * a : Nat), .int .i64 3] := rfl
  have hl4 : (rrun4 a s).length = 4 := rfl
  have HR4 := Lib.hid (show rrun4 a s = rrun3 a ++ [(128 + 16 * a, 4 * s, 4)] from rfl)
  have HR5 := Lib.hid (show rrun5 a s = if 0 < rpad a s then rrun4 a s ++ [(128 + 16 * a + 4 * s, rpad a s, 8)] else rrun4 a s from rfl)
  have HRR := Lib.hid (show rruns a s = rrun5 a s ++ [(lbase a s, 1024 * a, 7)] from rfl)
  have hl5 : (rrun5 a s).length ≤ 5 := by unfold rrun5; split <;> simp [hl4]
  have H3 := Lib.hid h3
  have HL3 : (rrun3 a).length = 3 := rfl
  have w1 : IntKind.i64.wrap (16 * (a : Int)) = ((16 * a : Nat) : Int) := by rw [IntWalk.i64_in _ (by omega)]; omega
  have w2 : IntKind.i64.wrap (128 + ((16 * a : Nat) : Int)) = ((128 + 16 * a : Nat) : Int) := by rw [IntWalk.i64_in _ (by omega)]; omega
  have w3 : IntKind.i64.wrap (4 * (s : Int)) = ((4 * s : Nat) : Int) := by rw [IntWalk.i64_in _ (by omega)]; omega
  have w4 : IntKind.i64.wrap (((128 + 16 * a : Nat) : Int) + ((4 * s : Nat) : Int)) = ((128 + 16 * a + 4 * s : Nat) : Int) := by rw [IntWalk.i64_in _ (by omega)]; omega
  have w5 : IntKind.i64.wrap (1024 * (a : Int)) = ((1024 * a : Nat) : Int) := by rw [IntWalk.i64_in _ (by omega)]; omega
  have w6 : IntKind.i64.wrap (((128 + 16 * a + 4 * s : Nat) : Int) + ((rpad a s : Nat) : Int)) = ((lbase a s : Nat) : Int) := by rw [IntWalk.i64_in _ (by omega)]; omega
  have hz4 : 128 + 16 * a + 4 * s ≤ 1048576 := by omega
  generalize rruns a s = RR at *
  generalize rrun5 a s = R5 at *
  generalize rrun4 a s = R4 at *
  generalize rrun3 a = R3 at *
  generalize lbase a s = b at *
  generalize rpad a s = P at *
  generalize 128 + 16 * a + 4 * s = z at *
  generalize 128 + 16 * a = y at *
  generalize 16 * a = x at *
  generalize 4 * s = v at *
  generalize 1024 * a = u at *
  have B0 := Lib.hid (Blk.new w 23 #[.int .i64 a, .int .i64 s])
  clear a1 a2 s1 s2 s3 h3
  go_enter Tryz.func52, Tryz.ntmps52
  (have d0 := B0.out.cell 0; have d1 := B0.out.cell 1; simp at d0 d1)
  go_wp2_with fail
  with_reducible refine hr.mono ?_
  rintro e w1 ⟨rfl, f1⟩
  have B1 := Lib.hid (B0.out.fr f1 (by simp))
  have F1 := Lib.hid (((Fr.refl [] w).alloc (.cells #[.int .i64 a, .int .i64 s] 23)).trans f1)
  have hs1 : w.heap.size + 1 ≤ w1.heap.size := by have := f1.size; simp at this; omega
  clear f1 hr
  clear d0 d1
  (have d0 := B1.out.cell 0; have d1 := B1.out.cell 1; simp at d0 d1)
  have hb0 := fun o => (B1.out.alloc o).cell 0
  have hb1 := fun o => (B1.out.alloc o).cell 1
  simp at hb0 hb1
  have hO3 : ∀ (cs : Array Value), cs = (rCells R3).toArray → OwnR (w1.alloc (.cells cs 84)) (w.heap.size + 1) (.slice (some ⟨w1.heap.size, 0, none⟩) 3 3) R3 := fun cs e => OwnR.made HL3 hs1 (by rw [e]; exact Blk.new _ _ _) (by decide)
  go_wp2_with (at_builtin; refine wpList_appR2 rfl _ _ rfl rfl (w.heap.size + 1) _ R3 rfl (World.ownsRow.alloc (hO3 _ (by rw [H3.out])) _) _ (y, v, 4) rfl (Blk.new2 _ _ _ _) (by omega) (by simp; omega) ?_; intro v1 W1 hO1 hFx hBx hs2; have F2 := Lib.hid (hFx _ ((F1.out.alloc _).alloc _) (Nat.le_succ _)); have B2 := Lib.hid (hBx _ _ _ ((B1.out.alloc _).alloc _) (Nat.lt_succ_self _)); have HO1 := Lib.hid hO1; clear hFx hBx hO1; have e0 := B2.out.cell 0; have e1 := B2.out.cell 1; simp at e0 e1)
  clear hb0 hb1
  go_loop [5] (fun v => ∃ j : Nat, j ≤ P ∧ v = .int .i64 j) (fun v => 100 - (intOf v).toNat)
  case atStart => exact ⟨0, Nat.zero_le _, rfl⟩
  case round =>
    obtain ⟨j, hj, rfl⟩ := hrel
    have u1 : IntKind.i64.wrap ((z : Int) + j) = ((z + j : Nat) : Int) := by rw [IntWalk.i64_in _ (by omega)]; omega
    have w7 : IntKind.i64.wrap ((j : Int) + 1) = (j : Int) + 1 := IntWalk.i64_in _ (by omega)
    by_cases hlt : j < P
    · have hm := hmin j hlt
      have c1 : ((((z + j : Nat) : Int) % 16) != 0) = true := by simp; omega
      have g1 : (0 : Int) ≤ ((z + j : Nat) : Int) := by omega
      have g2 : ((z + j : Nat) : Int) ≤ 2000000 := by omega
      have hj15 : j < 16 := by omega
      clear hm hmin hP
      generalize z + j = zj at *
      go_wp2_with fail
      go_round
      case rel => exact ⟨j + 1, by omega, by go_num⟩
      case measure => simp [intOf]; omega
    · obtain rfl : j = P := by omega
      have c1 : ((((z + j : Nat) : Int) % 16) != 0) = false := by simp; omega
      have g1 : (0 : Int) ≤ ((z + j : Nat) : Int) := by omega
      have g2 : ((z + j : Nat) : Int) ≤ 2000000 := by omega
      rw [hP.2.1] at c1 g1 g2 u1
      clear hmin hP hj u1
      by_cases h0 : 0 < j
      · have c2 : decide ((0 : Int) < j) = true := by simp; omega
        have c2' : decide (0 < j) = true := by simp; omega
        have hr5 := HR5.out
        rw [if_pos h0] at hr5
        have HR5a := Lib.hid hr5
        clear h0 hr5 HR5
        have hOa : OwnR W1 (w.heap.size + 1) v1 R4 := by rw [HR4.out]; exact HO1.out
        have HOa := Lib.hid hOa
        have tok : True := trivial
        clear hOa
        go_wp2_with (first | (at_builtin; have _t := tok; refine wpList_appR2 rfl _ _ rfl rfl (w.heap.size + 1) _ R4 rfl (World.ownsRow.alloc HOa.out _) _ (z, j, 8) rfl (Blk.new _ _ _) (by omega) (by simp; omega) ?_; intro v2 W2 hO2 hFx hBx hs3; have F3 := Lib.hid (hFx _ (F2.out.alloc _) (Nat.le_succ _)); have B3 := Lib.hid (hBx _ _ _ (B2.out.alloc _) (Nat.lt_succ_self _)); have HO2 := Lib.hid hO2; clear hFx hBx hO2 tok _t e0 e1; have e0 := B3.out.cell 0; have e1 := B3.out.cell 1; simp at e0 e1; have tok2 : True := trivial) | (at_builtin; have _t := tok2; refine wpList_appR2 rfl _ _ rfl rfl (w.heap.size + 1) _ R5 rfl (World.ownsRow.alloc (by rw [HR5a.out]; exact HO2.out) _) _ (b, u, 7) rfl (Blk.new _ _ _) (by omega) (by simp; omega) ?_; intro v3 W3 hO3 hFx hBx hs4; have F4 := Lib.hid (hFx _ (F3.out.alloc _) (Nat.le_succ _)); have HO3 := Lib.hid hO3; clear hFx hBx hO3 tok2 _t) | fail)
        go_ret
        exact ⟨_, rfl, by rw [HRR.out]; exact ownR_base (Nat.le_succ _) HO3.out, F4.out⟩
      · have c2 : decide ((0 : Int) < j) = false := by simp; omega
        have c2' : decide (0 < j) = false := by simp; omega
        have hr5 := HR5.out
        rw [if_neg h0] at hr5
        have HR5a := Lib.hid hr5
        clear h0 hr5 HR5
        have hOa : OwnR W1 (w.heap.size + 1) v1 R5 := by rw [HR5a.out, HR4.out]; exact HO1.out
        have HOa := Lib.hid hOa
        clear hOa
        go_wp2_with (at_builtin; refine wpList_appR2 rfl _ _ rfl rfl (w.heap.size + 1) _ R5 rfl (World.ownsRow.alloc HOa.out _) _ (b, u, 7) rfl (Blk.new _ _ _) (by omega) (by simp; omega) ?_; intro v3 W3 hO3 hFx hBx hs4; have F4 := Lib.hid (hFx _ (F2.out.alloc _) (Nat.le_succ _)); have HO3 := Lib.hid hO3; clear hFx hBx hO3)
        go_ret
        exact ⟨_, rfl, by rw [HRR.out]; exact ownR_base (Nat.le_succ _) HO3.out, F4.out⟩
end
end Go.Proofs.YtgoogihfggndpaaGreatDoor

/- The document's layout: Base, SlabAt, Slab. -/
namespace Go.Proofs.YtgoogihfggndpaaGreatDoor
set_option linter.unusedVariables false
set_option linter.unusedSimpArgs false
open Go.RowKit

theorem rruns_last (a s : Nat) : ∃ n : Nat, (rruns a s).length = n + 1 ∧ n ≤ 5 ∧ (rruns a s)[n]? = some (lbase a s, 1024 * a, 7) := by
  refine ⟨(rrun5 a s).length, by simp [rruns], ?_, by simp [rruns]⟩
  unfold rrun5
  split <;> simp [rrun4, rrun3]
section
variable {w : World}
set_option maxRecDepth 100000 in
theorem xbase9 (a s : Nat) (h : Cfg a s) : Calls Tryz.prog 119 #[.agg #[.int .i64 a, .int .i64 s]] w fun e w' => e = .returned (.int .i64 (lbase a s)) ∧ Fr [] w w' := by
  have hr := xruns9 (w := w.alloc (.cells #[.int .i64 a, .int .i64 s] 23)) a s h
  have F0 := Lib.hid ((Fr.refl [] w).alloc (.cells #[.int .i64 a, .int .i64 s] 23))
  obtain ⟨n, hn, hn5, hl⟩ := rruns_last a s
  generalize rruns a s = RR at *
  generalize lbase a s = b at *
  have B0 := Lib.hid (Blk.new w 23 #[.int .i64 a, .int .i64 s])
  go_enter Tryz.func119, Tryz.ntmps119
  (have d0 := B0.out.cell 0; have d1 := B0.out.cell 1; simp at d0 d1)
  go_wp2_with fail
  with_reducible refine hr.mono ?_
  rintro e w1 ⟨v, rfl, hO, f1⟩
  have F1 := Lib.hid (F0.out.trans f1)
  obtain ⟨g, cap, hv, _, _⟩ := World.ownsRow.form hO (by omega)
  have hcells := World.ownsRow.cells hO (g := g) (by rw [hv]; rfl)
  have hcap : RR.length ≤ cap := by
    obtain ⟨h1, ⟨h2, _⟩ | ⟨g', cap', cur, h2, _, _, hnc, _⟩⟩ := hO
    · rw [hv] at h2; cases h2
    · rw [hv] at h2; injection h2 with _ _ h3
      omega
  obtain ⟨e1, _, _⟩ := rCells_get RR n _ hl
  have hadd : ∀ j, (⟨g, 0, none⟩ : Addr).add j = ⟨g, j, none⟩ := fun j => by unfold Addr.add; split <;> simp_all
  have q1 := hcells _ _ e1
  rw [hadd, Nat.mul_comm] at q1
  rw [hn] at hv hcap
  subst hv
  have b1 : ((((n + 1 : Nat) : Int)) == 0) = false := by simp; omega
  have w1' : IntKind.i64.wrap (((n + 1 : Nat) : Int) - 1) = (n : Int) := by rw [IntWalk.i64_in _ (by omega)]; omega
  clear hr hO f1 hcells e1 hadd hl hn h
  have hi1 : (n : Int) < ((n + 1 : Nat) : Int) := by omega
  generalize hN : n + 1 = N at *
  have b1' : (N = 0) = False := by simp; omega
  go_wp2_with fail
  go_ret
  exact ⟨rfl, F1.out⟩
set_option maxRecDepth 100000 in
theorem xslabat9 (a s i : Nat) (h : Cfg a s) (hi : i < a) : Calls Tryz.prog 111 #[.agg #[.int .i64 a, .int .i64 s], .int .i64 i] w fun e w' => e = .returned (.int .i64 (lbase a s + 1024 * i : Nat)) ∧ Fr [] w w' := by
  have hr := Lib.hid (fun W => xright9 (w := W) a s h)
  have hb := Lib.hid (fun W => xbase9 (w := W) a s h)
  have F0 := Lib.hid ((Fr.refl [] w).alloc (.cells #[.int .i64 a, .int .i64 s] 23))
  have B0 := Lib.hid (Blk.new w 23 #[.int .i64 a, .int .i64 s])
  have hl := lbase_le a s h
  have ha := h.a2
  have b1 : decide ((i : Int) < 0) = false := by simp
  have b2 : decide ((a : Int) ≤ i) = false := by simp; omega
  have b2' : decide (a ≤ i) = false := by simp; omega
  have w1 : IntKind.i64.wrap (1024 * (i : Int)) = 1024 * (i : Int) := IntWalk.i64_in _ (by omega)
  have w2 : IntKind.i64.wrap ((lbase a s : Int) + 1024 * (i : Int)) = ((lbase a s + 1024 * i : Nat) : Int) := by rw [IntWalk.i64_in _ (by omega)]; omega
  generalize lbase a s + 1024 * i = r at *
  generalize lbase a s = b at *
  clear hl ha hi h
  go_enter Tryz.func111, Tryz.ntmps111
  (have d0 := B0.out.cell 0; have d1 := B0.out.cell 1; simp at d0 d1)
  go_wp2_with fail
  with_reducible refine (hr.out _).mono ?_
  rintro e w1 ⟨rfl, f⟩
  have B1 := Lib.hid (B0.out.fr f (by simp))
  have F1 := Lib.hid (F0.out.trans f)
  clear f
  clear d0 d1
  (have d0 := B1.out.cell 0; have d1 := B1.out.cell 1; simp at d0 d1)
  go_wp2_with fail
  with_reducible refine (hb.out _).mono ?_
  rintro e w2 ⟨rfl, f⟩
  have F2 := Lib.hid (F1.out.trans f)
  clear f
  go_wp2_with fail
  go_ret
  exact ⟨rfl, F2.out⟩
end
end Go.Proofs.YtgoogihfggndpaaGreatDoor

/- The document's slabs: Begin, Block. -/
namespace Go.Proofs.YtgoogihfggndpaaGreatDoor
set_option linter.unusedVariables false
set_option linter.unusedSimpArgs false
open Go.RowKit

section
variable {w : World} {p gl a s : Nat} {B : List Nat} {S : SS}
end
end Go.Proofs.YtgoogihfggndpaaGreatDoor

/- The document's slabs: one slab's rows; take. -/
namespace Go.Proofs.YtgoogihfggndpaaGreatDoor
set_option linter.unusedVariables false
set_option linter.unusedSimpArgs false
open Go.RowKit

section
variable {w w' : World} {p gl a s : Nat} {B S' : List Nat} {S : SS}
end
end Go.Proofs.YtgoogihfggndpaaGreatDoor

/- Appending to rows of runs; ref08.Pad. -/
namespace Go.Proofs.YtgoogihfggndpaaGreatDoor
set_option linter.unusedVariables false
set_option linter.unusedSimpArgs false
open Go.RowKit

/-- A row of runs. -/
def RowR (w : World) (g cap : Nat) (l : List Rn) : Prop := ∃ cur, Blk w g 84 cur ∧ cur.size = cap * 3 ∧ l.length ≤ cap ∧ cap ≤ maxLen ∧ cur.toList.take (l.length * 3) = rCells l
theorem RowR.fr {w w' : World} {g cap : Nat} {l : List Rn} {S : List Nat} (h : RowR w g cap l) (hf : Fr S w w') (hg : g ∉ S) : RowR w' g cap l := by
  obtain ⟨cur, hb, r⟩ := h
  exact ⟨cur, hb.fr hf hg, r⟩
theorem RowR.le {w : World} {g cap : Nat} {l : List Rn} (h : RowR w g cap l) : l.length ≤ cap := by
  obtain ⟨cur, _, _, h, _⟩ := h
  exact h
theorem RowR.lt {w : World} {g cap : Nat} {l : List Rn} (h : RowR w g cap l) : g < w.heap.size := by
  obtain ⟨cur, hb, _⟩ := h
  exact hb.lt
theorem RowR.frozen {w : World} {g cap : Nat} {l : List Rn} (h : RowR w g cap l) (i : Nat) : w.frozen? ⟨g, i, none⟩ = false := by
  obtain ⟨cur, hb, _⟩ := h
  exact hb.frozen i
theorem RowR.at_ {w : World} {g cap : Nat} {l : List Rn} (h : RowR w g cap l) {j : Nat} {u : Value} (hu : (rCells l)[j]? = some u) : w.cell? ⟨g, j, none⟩ = some u := by
  obtain ⟨cur, hb, h1, h2, h3, h4⟩ := h
  have hj : j < l.length * 3 := by
    have := (List.getElem?_eq_some_iff.1 hu).1
    rw [rCells_len] at this; omega
  rw [hb.cell, ← Array.getElem?_toList, ← hu, ← h4, List.getElem?_take, if_pos hj]
theorem RowR.cells {w : World} {g cap : Nat} {l : List Rn} (h : RowR w g cap l) {k : Nat} {r : Rn} (hk : l[k]? = some r) : w.cell? ⟨g, k * 3, none⟩ = some (.int .i64 r.1) ∧ w.cell? ⟨g, k * 3 + 1, none⟩ = some (.int .i64 r.2.1) ∧ w.cell? ⟨g, k * 3 + 2, none⟩ = some (.int .i64 r.2.2) := by
  obtain ⟨e1, e2, e3⟩ := rCells_get l k r hk
  rw [Nat.mul_comm k 3]
  exact ⟨h.at_ e1, h.at_ e2, h.at_ e3⟩
theorem OwnR.rowR {w : World} {base : Nat} {v : Value} {l : List Rn} (h : OwnR w base v l) (h0 : 0 < l.length) : ∃ g cap, v = .slice (some ⟨g, 0, none⟩) l.length cap ∧ base ≤ g ∧ RowR w g cap l := by
  obtain ⟨h1, ⟨h2, h3⟩ | ⟨g, cap, cur, rfl, hb, hg, r1, r2, r3, r4⟩⟩ := h
  · omega
  · exact ⟨g, cap, rfl, hb, cur, hg, r3, r1, r2, r4⟩
theorem RowR.own {w : World} {base g cap : Nat} {l : List Rn} (h : RowR w g cap l) (hb : base ≤ g) : OwnR w base (.slice (some ⟨g, 0, none⟩) l.length cap) l := by
  obtain ⟨cur, hg, r3, r1, r2, r4⟩ := h
  exact ⟨by rw [rCells_len]; omega, .inr ⟨g, cap, cur, rfl, hb, hg, r1, r2, r3, r4⟩⟩
theorem rCells_app (l m : List Rn) : rCells (l ++ m) = rCells l ++ rCells m := by simp [rCells]
theorem RowR.setL {w : World} {g cap : Nat} {l : List Rn} {x : Rn} (h : RowR w g cap (l ++ [x])) (m : Nat) : RowR (w.setCell ⟨g, l.length * 3 + 1, none⟩ (.int .i64 m)) g cap (l ++ [(x.1, m, x.2.2)]) := by
  obtain ⟨cur, hb, h1, h2, h3, h4⟩ := h
  rw [List.length_append, List.length_singleton] at h2 h4
  refine ⟨_, hb.set (l.length * 3 + 1) (.int .i64 m), by simpa using h1, by simpa using h2, h3, ?_⟩
  rw [List.length_append, List.length_singleton]
  rw [rCells_app] at h4 ⊢
  apply List.ext_getElem?
  intro i
  rw [Array.toList_setIfInBounds]
  have hc : ∀ i, i < (l.length + 1) * 3 → cur.toList[i]? = (rCells l ++ rCells [x])[i]? := fun i hi => by
    rw [← h4, List.getElem?_take, if_pos hi]
  rcases Nat.lt_or_ge i ((l.length + 1) * 3) with hi | hi
  · rw [List.getElem?_take, if_pos hi]
    by_cases e : i = l.length * 3 + 1
    · subst e
      rw [List.getElem?_set_self (by simp; omega), List.getElem?_append_right (by rw [rCells_len]; omega), rCells_len]
      rw [show l.length * 3 + 1 - 3 * l.length = 1 by omega]
      rfl
    · rw [List.getElem?_set_ne (fun h => e h.symm), hc i hi]
      rcases Nat.lt_or_ge i (l.length * 3) with hl | hl
      · rw [List.getElem?_append_left (by rw [rCells_len]; omega), List.getElem?_append_left (by rw [rCells_len]; omega)]
      · rw [List.getElem?_append_right (by rw [rCells_len]; omega), List.getElem?_append_right (by rw [rCells_len]; omega), rCells_len]
        rcases (by omega : i - 3 * l.length = 0 ∨ i - 3 * l.length = 2) with e2 | e2 <;> rw [e2] <;> rfl
  · rw [List.getElem?_take, if_neg (by omega), List.getElem?_eq_none (by rw [List.length_append, rCells_len, rCells_len]; simp; omega)]
theorem run_appRR (w : World) (base : Nat) (v : Value) (l : List Rn) (h : OwnR w base v l) (g c : Nat) (m : List Rn) (hm : RowR w g c m) (n : Nat) (hn : m.length = n) (cap : Nat) (hl : l.length + n ≤ 1048576) (hbase : base ≤ w.heap.size) :
    ∃ v' w', (Builtin.append_ #[37, 37] 37 #[v, .slice (some ⟨g, 0, none⟩) n cap]).run Tryz.prog w = .ok v' w' ∧ OwnR w' base v' (l ++ m) ∧ w.grownBy w' v.ownBlock := by
  subst hn
  obtain ⟨i, hi, hz, hs, hb⟩ := info_rn'
  obtain ⟨v', w', hrun, h2, h3, _, _⟩ := run_append_own_at (P := Tryz.prog) w base 37 37 84 i (.agg #[.int .i64 0, .int .i64 0, .int .i64 0]) 3 24 Tryz.underlying37 hi hz hs hb rfl (by decide) v l.length (rCells l) h ⟨g, 0, none⟩ m.length cap (rCells m) (by rw [rCells_len]; omega) (fun j u hu => by
    have := hm.at_ hu
    have hadd : (⟨g, 0, none⟩ : Addr).add j = ⟨g, j, none⟩ := by unfold Addr.add; split <;> simp_all
    rw [hadd]; exact this) (fun u hu => by
      unfold rCells at hu
      obtain ⟨r, _, hr⟩ := List.mem_flatMap.1 hu
      simp at hr
      rcases hr with rfl | rfl | rfl <;> rfl) (by unfold maxLen; omega) (by omega) hbase
  refine ⟨v', w', hrun, ?_, h3⟩
  unfold OwnR
  rw [List.length_append, rCells_app]
  exact h2
theorem ownR0 (w : World) : OwnR (w.alloc (.cells #[] 84)) w.heap.size (.slice (some ⟨w.heap.size, 0, none⟩) 0 0) [] :=
  ⟨rfl, .inr ⟨_, 0, #[], rfl, Nat.le_refl _, Blk.new _ _ _, Nat.le_refl _, by unfold maxLen; omega, rfl, rfl⟩⟩
theorem wpList_app0 {P : Program} {w : World} {ops : Array Oper} {rest : List Oper} {o : Oper} {a : Act} {Q : Exit → Act → World → Prop} (hgd : o.guard = none)
    (s x : Operand) (t : TypeId) (hop : o.op = Op.call { callee := Callee.builtin Builtin.append, args := #[s, x], argTypes := #[t, t] }) (hty : o.type = t)
    (vs vx v' : Value) (w' : World) (hs : a.eval s = vs) (hx : a.eval x = vx) (hrun : (Builtin.append_ #[t, t] t #[vs, vx]).run P w = .ok v' w')
    (h : wpList P ops Q rest (a.put o.dst v') w') : wpList P ops Q (o :: rest) a w :=
  wpList_plain hgd fun K hK => oper_app s x t hop hty vs vx v' w' hs hx hrun (hK _ _ h)
theorem RowR.pre {w : World} {g cap : Nat} {l m : List Rn} (h : RowR w g cap (l ++ m)) : RowR w g cap l := by
  obtain ⟨cur, hb, h1, h2, h3, h4⟩ := h
  rw [List.length_append] at h2 h4
  refine ⟨cur, hb, h1, by omega, h3, ?_⟩
  rw [rCells_app] at h4
  have : cur.toList.take (l.length * 3) = ((rCells l ++ rCells m)).take (l.length * 3) := by
    rw [← h4, List.take_take, Nat.min_eq_left (by omega)]
  rw [this, List.take_append_of_le_length (by rw [rCells_len]; omega), List.take_of_length_le (by rw [rCells_len]; omega)]
theorem xpad8 {w : World} (c : Nat) (hc : 1 ≤ c ∧ c ≤ 9) : Calls Tryz.prog 116 #[.int .i64 c] w fun e w' => e = .returned (.int .i64 (cpad c)) ∧ w' = w := by
  have h1 := fun W => xsize8 (w := W) c
  have h2 := fun W => xblocks8 (w := W) c
  rw [cszZ_nat c hc.2] at h1
  rw [nbkZ_nat c hc.2] at h2
  obtain ⟨c1, c2, c3, c4, c5, c6, c7⟩ := csz_tab c hc.1 hc.2
  have b0 : ((csz c : Int) == 0) = false := beq_eq_false_iff_ne.2 (by omega)
  have e : IntKind.i64.wrap ((nbk c : Int) * (csz c : Int)) = ((csz c * nbk c : Nat) : Int) := by
    rw [Int.mul_comm, ← Int.natCast_mul]
    exact IntWalk.i64_in _ (by omega)
  have e2 : IntKind.i64.wrap (1024 - ((csz c * nbk c : Nat) : Int)) = (cpad c : Int) := by
    rw [IntWalk.i64_in _ (by omega)]
    omega
  generalize csz c * nbk c = z at *
  generalize csz c = x at *
  generalize nbk c = y at *
  generalize cpad c = u at *
  clear c1 c2 c3 c4 c5 c6 c7 hc
  go_enter Tryz.func116, Tryz.ntmps116
  go_wp2_with fail
  with_reducible refine (h1 _).mono ?_
  rintro e w1 ⟨rfl, rfl⟩
  go_wp2_with fail
  with_reducible refine (h2 _).mono ?_
  rintro e w1 ⟨rfl, rfl⟩
  go_wp2_with fail
  with_reducible refine (h1 _).mono ?_
  rintro e w1 ⟨rfl, rfl⟩
  go_wp2_with fail
  go_ret
  exact ⟨rfl, rfl⟩
end Go.Proofs.YtgoogihfggndpaaGreatDoor
