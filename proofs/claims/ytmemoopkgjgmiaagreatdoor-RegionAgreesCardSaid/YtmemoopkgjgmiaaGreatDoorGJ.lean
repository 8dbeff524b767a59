/- Several texts in one. -/
import Derived.Test.YtmemoopkgjgmiaaGreatDoorGA
import Derived.Test.YtmemoopkgjgmiaaGreatDoorGH
import Derived.Test.YtmemoopkgjgmiaaGreatDoorGB
import Derived.Test.YtmemoopkgjgmiaaGreatDoorGI
import Derived.Test.YtmemoopkgjgmiaaGreatDoorGD
/- The document's slabs in memory: rows of numbers that belong to it. -/
namespace Go.Proofs.YtmemoopkgjgmiaaGreatDoor
set_option linter.unusedVariables false
set_option linter.unusedSimpArgs false
open Go.RowKit

end Go.Proofs.YtmemoopkgjgmiaaGreatDoor

/- The document's classes: Size, Blocks. -/
namespace Go.Proofs.YtmemoopkgjgmiaaGreatDoor
set_option linter.unusedVariables false
set_option linter.unusedSimpArgs false
open Go.RowKit

section
variable {w : World}
end
end Go.Proofs.YtmemoopkgjgmiaaGreatDoor

/- The document's layout: Right, Runs, Base, SlabAt, Slab. -/
namespace Go.Proofs.YtmemoopkgjgmiaaGreatDoor
set_option linter.unusedVariables false
set_option linter.unusedSimpArgs false
open Go.RowKit

section
variable {w : World}
set_option maxRecDepth 100000 in
theorem xright9 (a s : Nat) (h : Cfg a s) : Calls Tryz.prog 41 #[.agg #[.int .i64 a, .int .i64 s]] w fun e w' => e = .returned (.bool true) ∧ Fr [] w w' := by
  obtain ⟨a1, a2, s1, s2, s3⟩ := h
  have b1 : decide ((7 : Int) ≤ a) = true := by simp; omega
  have b1' : decide (7 ≤ a) = true := by simp; omega
  have b2 : decide ((a : Int) ≤ 64) = true := by simp; omega
  have b2' : decide (a ≤ 64) = true := by simp; omega
  have b3 : (((s : Int) % 2) == 0) = true := by simp; omega
  have w1 : IntKind.i64.wrap (32 * (a : Int)) = 32 * (a : Int) := IntWalk.i64_in _ (by omega)
  have b4 : decide (32 * (a : Int) ≤ s) = true := by simp; omega
  have b5 : decide ((s : Int) ≤ 8192) = true := by simp; omega
  have b5' : decide (s ≤ 8192) = true := by simp; omega
  have B0 := Blk.new w 61 #[.int .i64 a, .int .i64 s]
  (have d0 := B0.cell 0; have d1 := B0.cell 1; simp at d0 d1)
  have g1 : (0 : Int) ≤ s := by omega
  have g2 : (s : Int) ≤ 8192 := by omega
  clear s1 s2 B0
  go_enter Tryz.func41, Tryz.ntmps41
  go_wp2_with fail
  go_ret
  exact ⟨rfl, (Fr.refl [] w).alloc _⟩
/-- The document's parts of an arena but for the last one. -/
def rrun3 (a : Nat) : List Rn := [(0, 8, 1), (8, 120, 2), (128, 16 * a, 3)]
def rrun4 (a s : Nat) : List Rn := rrun3 a ++ [(128 + 16 * a, 4 * s, 4)]
def rpad (a s : Nat) : Nat := lbase a s - (128 + 16 * a + 4 * s)
def rrun5 (a s : Nat) : List Rn := if 0 < rpad a s then rrun4 a s ++ [(128 + 16 * a + 4 * s, rpad a s, 8)] else rrun4 a s
def rruns (a s : Nat) : List Rn := rrun5 a s ++ [(lbase a s, 1024 * a, 7)]
theorem OwnR.made {base g : Nat} {l : List Rn} {n : Nat} (hn : l.length = n) (hb : base ≤ g) (h : Blk w g 175 (rCells l).toArray) (hl : n ≤ 1048576) : OwnR w base (.slice (some ⟨g, 0, none⟩) n n) l := by
  subst hn
  refine ⟨by rw [rCells_len]; omega, .inr ⟨g, l.length, (rCells l).toArray, rfl, hb, h, Nat.le_refl _, by unfold maxLen; omega, by simp [rCells_len]; omega, ?_⟩⟩
  simp only [List.toList_toArray]
  exact List.take_of_length_le (by rw [rCells_len]; omega)
theorem ownR_base {w : World} {base base' : Nat} {v : Value} {l : List Rn} (hb : base ≤ base') (h : OwnR w base' v l) : OwnR w base v l := by
  obtain ⟨h1, h2⟩ := h
  refine ⟨h1, h2.imp id ?_⟩
  rintro ⟨g, cap, cs, e, hg, r⟩
  exact ⟨g, cap, cs, e, by omega, r⟩
theorem Blk.new2 (w : World) (o : Obj) (t : TypeId) (cs : Array Value) : Blk ((w.alloc o).alloc (.cells cs t)) (w.heap.size + 1) t cs := by
  have := Blk.new (w.alloc o) t cs
  rwa [World.size_alloc] at this
theorem own_box {w w' : World} {base n size : Nat} {e : TypeId} {v : Value} {xs : List Value} (h : w.ownsRow base e size v n xs) (hg : w.grownBy w' v.ownBlock) {b : Nat} {t : TypeId} {cs : Array Value} (hb : Blk w b t cs) (hlt : b < base) : Blk w' b t cs := by
  refine (hg.block b hb.lt (fun e' => ?_)).trans hb
  have := (h.lt b e'.symm).1
  omega
theorem wpList_appR2 {w : World} {ops : Array Oper} {rest : List Oper} {o : Oper} {a : Act} {Q : Exit → Act → World → Prop} (hgd : o.guard = none) (s x : Operand) (ho : o.op = .call { callee := .builtin .append, args := #[s, x], argTypes := #[54, 54] }) (hty : o.type = 54)
    (base : Nat) (v : Value) (l : List Rn) (hs : a.eval s = v) (hown : OwnR w base v l) (g : Nat) (r : Rn) (hx : a.eval x = .slice (some ⟨g, 0, none⟩) 1 1) (hg : Blk w g 175 #[.int .i64 r.1, .int .i64 r.2.1, .int .i64 r.2.2])
    (hl : l.length ≤ 1048576) (hbase : base ≤ w.heap.size)
    (h : ∀ v' w', OwnR w' base v' (l ++ [r]) → (∀ w0, Fr [] w0 w → w0.heap.size ≤ base → Fr [] w0 w') → (∀ b t cs, Blk w b t cs → b < base → Blk w' b t cs) → base ≤ w'.heap.size → wpList Tryz.prog ops Q rest (a.put o.dst v') w') : wpList Tryz.prog ops Q (o :: rest) a w :=
  wpList_appR hgd s x ho hty base v l hs hown g r hx hg hl hbase fun v' w' h1 h2 _ => h v' w' h1 (fun w0 hf hb => own_fr hown h2 hf hb) (fun b t cs hb hlt => own_box hown h2 hb hlt) (Nat.le_trans hbase h2.size)
set_option maxRecDepth 100000 in
set_option maxHeartbeats 4000000 in
theorem xruns9 (a s : Nat) (h : Cfg a s) : Calls Tryz.prog 132 #[.agg #[.int .i64 a, .int .i64 s]] w (RunsP w (rruns a s)) := by
  have hr := xright9 (w := w.alloc (.cells #[.int .i64 a, .int .i64 s] 61)) a s h
  obtain ⟨a1, a2, s1, s2, s3⟩ := h
  have hP : rpad a s ≤ 15 ∧ 128 + 16 * a + 4 * s + rpad a s = lbase a s ∧ (128 + 16 * a + 4 * s + rpad a s) % 16 = 0 := by unfold rpad lbase; omega
  have hmin : ∀ j, j < rpad a s → (128 + 16 * a + 4 * s + j) % 16 ≠ 0 := fun j hj => by unfold rpad lbase at hj; omega
  have h3 : (rCells (rrun3 a)) = [.int .i64 0, .int .i64 8, .int .i64 1, .int .i64 8, .int .i64 120, .int .i64 2, .int .i64 128, .int .i64 (16 * a : Nat), .int .i64 3] := rfl
  have hl4 : (rrun4 a s).length = 4 := rfl
  have HR4 := Lib.hid (show rrun4 a s = rrun3 a ++ [(128 + 16 * a, 4 * s, 4)] from rfl)
  have HR5 := Lib.hid (show rrun5 a s = if 0 < rpad a s then rrun4 a s ++ [(128 + 16 * a + 4 * s, rpad a s, 8)] else rrun4 a s from rfl)
  have HRR := Lib.hid (show rruns a s = rrun5 a s ++ [(lbase a s, 1024 * a, 7)] from rfl)
  have hl5 : (rrun5 a s).length ≤ 5 := by unfold rrun5; split <;> simp [hl4]
  have H3 := Lib.hid h3
  have HL3 : (rrun3 a).length = 3 := rfl
  have w1 : IntKind.i64.wrap (16 * (a : Int)) = ((16 * a : Nat) : Int) := by rw [IntWalk.i64_in _ (by omega)]; omega
  have w2 : IntKind.i64.wrap (128 + ((16 * a : Nat) : Int)) = ((128 + 16 * a : Nat) : Int) := by rw [IntWalk.i64_in _ (by omega)]; omega
  have w3 : IntKind.i64.wrap (4 * (s : Int)) = ((4 * s : Nat) : Int) := by rw [IntWalk.i64_in _ (by omega)]; omega
  have w4 : IntKind.i64.wrap (((128 + 16 * a : Nat) : Int) + ((4 * s : Nat) : Int)) = ((128 + 16 * a + 4 * s : Nat) : Int) := by rw [IntWalk.i64_in _ (by omega)]; omega
  have w5 : IntKind.i64.wrap (1024 * (a : Int)) = ((1024 * a : Nat) : Int) := by rw [IntWalk.i64_in _ (by omega)]; omega
  have w6 : IntKind.i64.wrap (((128 + 16 * a + 4 * s : Nat) : Int) + ((rpad a s : Nat) : Int)) = ((lbase a s : Nat) : Int) := by rw [IntWalk.i64_in _ (by omega)]; omega
  have hz4 : 128 + 16 * a + 4 * s ≤ 1048576 := by omega
  generalize rruns a s = RR at *
  generalize rrun5 a s = R5 at *
  generalize rrun4 a s = R4 at *
  generalize rrun3 a = R3 at *
  generalize lbase a s = b at *
  generalize rpad a s = P at *
  generalize 128 + 16 * a + 4 * s = z at *
  generalize 128 + 16 * a = y at *
  generalize 16 * a = x at *
  generalize 4 * s = v at *
  generalize 1024 * a = u at *
  have B0 := Lib.hid (Blk.new w 61 #[.int .i64 a, .int .i64 s])
  clear a1 a2 s1 s2 s3 h3
  go_enter Tryz.func132, Tryz.ntmps132
  (have d0 := B0.out.cell 0; have d1 := B0.out.cell 1; simp at d0 d1)
  go_wp2_with fail
  with_reducible refine hr.mono ?_
  rintro e w1 ⟨rfl, f1⟩
  have B1 := Lib.hid (B0.out.fr f1 (by simp))
  have F1 := Lib.hid (((Fr.refl [] w).alloc (.cells #[.int .i64 a, .int .i64 s] 61)).trans f1)
  have hs1 : w.heap.size + 1 ≤ w1.heap.size := by have := f1.size; simp at this; omega
  clear f1 hr
  clear d0 d1
  (have d0 := B1.out.cell 0; have d1 := B1.out.cell 1; simp at d0 d1)
  have hb0 := fun o => (B1.out.alloc o).cell 0
  have hb1 := fun o => (B1.out.alloc o).cell 1
  simp at hb0 hb1
  have hO3 : ∀ (cs : Array Value), cs = (rCells R3).toArray → OwnR (w1.alloc (.cells cs 175)) (w.heap.size + 1) (.slice (some ⟨w1.heap.size, 0, none⟩) 3 3) R3 := fun cs e => OwnR.made HL3 hs1 (by rw [e]; exact Blk.new _ _ _) (by decide)
  go_wp2_with (at_builtin; refine wpList_appR2 rfl _ _ rfl rfl (w.heap.size + 1) _ R3 rfl (World.ownsRow.alloc (hO3 _ (by rw [H3.out])) _) _ (y, v, 4) rfl (Blk.new2 _ _ _ _) (by omega) (by simp; omega) ?_; intro v1 W1 hO1 hFx hBx hs2; have F2 := Lib.hid (hFx _ ((F1.out.alloc _).alloc _) (Nat.le_succ _)); have B2 := Lib.hid (hBx _ _ _ ((B1.out.alloc _).alloc _) (Nat.lt_succ_self _)); have HO1 := Lib.hid hO1; clear hFx hBx hO1; have e0 := B2.out.cell 0; have e1 := B2.out.cell 1; simp at e0 e1)
  clear hb0 hb1
  go_loop [5] (fun v => ∃ j : Nat, j ≤ P ∧ v = .int .i64 j) (fun v => 100 - (intOf v).toNat)
  case atStart => exact ⟨0, Nat.zero_le _, rfl⟩
  case round =>
    obtain ⟨j, hj, rfl⟩ := hrel
    have u1 : IntKind.i64.wrap ((z : Int) + j) = ((z + j : Nat) : Int) := by rw [IntWalk.i64_in _ (by omega)]; omega
    have w7 : IntKind.i64.wrap ((j : Int) + 1) = (j : Int) + 1 := IntWalk.i64_in _ (by omega)
    by_cases hlt : j < P
    · have hm := hmin j hlt
      have c1 : ((((z + j : Nat) : Int) % 16) != 0) = true := by simp; omega
      have g1 : (0 : Int) ≤ ((z + j : Nat) : Int) := by omega
      have g2 : ((z + j : Nat) : Int) ≤ 2000000 := by omega
      have hj15 : j < 16 := by omega
      clear hm hmin hP
      generalize z + j = zj at *
      go_wp2_with fail
      go_round
      case rel => exact ⟨j + 1, by omega, by go_num⟩
      case measure => simp [intOf]; omega
    · obtain rfl : j = P := by omega
      have c1 : ((((z + j : Nat) : Int) % 16) != 0) = false := by simp; omega
      have g1 : (0 : Int) ≤ ((z + j : Nat) : Int) := by omega
      have g2 : ((z + j : Nat) : Int) ≤ 2000000 := by omega
      rw [hP.2.1] at c1 g1 g2 u1
      clear hmin hP hj u1
      by_cases h0 : 0 < j
      · have c2 : decide ((0 : Int) < j) = true := by simp; omega
        have c2' : decide (0 < j) = true := by simp; omega
        have hr5 := HR5.out
        rw [if_pos h0] at hr5
        have HR5a := Lib.hid hr5
        clear h0 hr5 HR5
        have hOa : OwnR W1 (w.heap.size + 1) v1 R4 := by rw [HR4.out]; exact HO1.out
        have HOa := Lib.hid hOa
        have tok : True := trivial
        clear hOa
        go_wp2_with (first | (at_builtin; have _t := tok; refine wpList_appR2 rfl _ _ rfl rfl (w.heap.size + 1) _ R4 rfl (World.ownsRow.alloc HOa.out _) _ (z, j, 8) rfl (Blk.new _ _ _) (by omega) (by simp; omega) ?_; intro v2 W2 hO2 hFx hBx hs3; have F3 := Lib.hid (hFx _ (F2.out.alloc _) (Nat.le_succ _)); have B3 := Lib.hid (hBx _ _ _ (B2.out.alloc _) (Nat.lt_succ_self _)); have HO2 := Lib.hid hO2; clear hFx hBx hO2 tok _t e0 e1; have e0 := B3.out.cell 0; have e1 := B3.out.cell 1; simp at e0 e1; have tok2 : True := trivial) | (at_builtin; have _t := tok2; refine wpList_appR2 rfl _ _ rfl rfl (w.heap.size + 1) _ R5 rfl (World.ownsRow.alloc (by rw [HR5a.out]; exact HO2.out) _) _ (b, u, 7) rfl (Blk.new _ _ _) (by omega) (by simp; omega) ?_; intro v3 W3 hO3 hFx hBx hs4; have F4 := Lib.hid (hFx _ (F3.out.alloc _) (Nat.le_succ _)); have HO3 := Lib.hid hO3; clear hFx hBx hO3 tok2 _t) | fail)
        go_ret
        exact ⟨_, rfl, by rw [HRR.out]; exact ownR_base (Nat.le_succ _) HO3.out, F4.out⟩
      · have c2 : decide ((0 : Int) < j) = false := by simp; omega
        have c2' : decide (0 < j) = false := by simp; omega
        have hr5 := HR5.out
        rw [if_neg h0] at hr5
        have HR5a := Lib.hid hr5
        clear h0 hr5 HR5
        have hOa : OwnR W1 (w.heap.size + 1) v1 R5 := by rw [HR5a.out, HR4.out]; exact HO1.out
        have HOa := Lib.hid hOa
        clear hOa
        go_wp2_with (at_builtin; refine wpList_appR2 rfl _ _ rfl rfl (w.heap.size + 1) _ R5 rfl (World.ownsRow.alloc HOa.out _) _ (b, u, 7) rfl (Blk.new _ _ _) (by omega) (by simp; omega) ?_; intro v3 W3 hO3 hFx hBx hs4; have F4 := Lib.hid (hFx _ (F2.out.alloc _) (Nat.le_succ _)); have HO3 := Lib.hid hO3; clear hFx hBx hO3)
        go_ret
        exact ⟨_, rfl, by rw [HRR.out]; exact ownR_base (Nat.le_succ _) HO3.out, F4.out⟩
end
end Go.Proofs.YtmemoopkgjgmiaaGreatDoor

/- The document's layout: Base, SlabAt, Slab. -/
namespace Go.Proofs.YtmemoopkgjgmiaaGreatDoor
set_option linter.unusedVariables false
set_option linter.unusedSimpArgs false
open Go.RowKit

theorem rruns_last (a s : Nat) : ∃ n : Nat, (rruns a s).length = n + 1 ∧ n ≤ 5 ∧ (rruns a s)[n]? = some (lbase a s, 1024 * a, 7) := by
  refine ⟨(rrun5 a s).length, by simp [rruns], ?_, by simp [rruns]⟩
  unfold rrun5
  split <;> simp [rrun4, rrun3]
section
variable {w : World}
set_option maxRecDepth 100000 in
theorem xbase9 (a s : Nat) (h : Cfg a s) : Calls Tryz.prog 139 #[.agg #[.int .i64 a, .int .i64 s]] w fun e w' => e = .returned (.int .i64 (lbase a s)) ∧ Fr [] w w' := by
  have hr := xruns9 (w := w.alloc (.cells #[.int .i64 a, .int .i64 s] 61)) a s h
  have F0 := Lib.hid ((Fr.refl [] w).alloc (.cells #[.int .i64 a, .int .i64 s] 61))
  obtain ⟨n, hn, hn5, hl⟩ := rruns_last a s
  generalize rruns a s = RR at *
  generalize lbase a s = b at *
  have B0 := Lib.hid (Blk.new w 61 #[.int .i64 a, .int .i64 s])
  go_enter Tryz.func139, Tryz.ntmps139
  (have d0 := B0.out.cell 0; have d1 := B0.out.cell 1; simp at d0 d1)
  go_wp2_with fail
  with_reducible refine hr.mono ?_
  rintro e w1 ⟨v, rfl, hO, f1⟩
  have F1 := Lib.hid (F0.out.trans f1)
  obtain ⟨g, cap, hv, _, _⟩ := World.ownsRow.form hO (by omega)
  have hcells := World.ownsRow.cells hO (g := g) (by rw [hv]; rfl)
  have hcap : RR.length ≤ cap := by
    obtain ⟨h1, ⟨h2, _⟩ | ⟨g', cap', cur, h2, _, _, hnc, _⟩⟩ := hO
    · rw [hv] at h2; cases h2
    · rw [hv] at h2; injection h2 with _ _ h3
      omega
  obtain ⟨e1, _, _⟩ := rCells_get RR n _ hl
  have hadd : ∀ j, (⟨g, 0, none⟩ : Addr).add j = ⟨g, j, none⟩ := fun j => by unfold Addr.add; split <;> simp_all
  have q1 := hcells _ _ e1
  rw [hadd, Nat.mul_comm] at q1
  rw [hn] at hv hcap
  subst hv
  have b1 : ((((n + 1 : Nat) : Int)) == 0) = false := by simp; omega
  have w1' : IntKind.i64.wrap (((n + 1 : Nat) : Int) - 1) = (n : Int) := by rw [IntWalk.i64_in _ (by omega)]; omega
  clear hr hO f1 hcells e1 hadd hl hn h
  have hi1 : (n : Int) < ((n + 1 : Nat) : Int) := by omega
  generalize hN : n + 1 = N at *
  have b1' : (N = 0) = False := by simp; omega
  go_wp2_with fail
  go_ret
  exact ⟨rfl, F1.out⟩
end
end Go.Proofs.YtmemoopkgjgmiaaGreatDoor

/- The document's slabs: Begin, Block. -/
namespace Go.Proofs.YtmemoopkgjgmiaaGreatDoor
set_option linter.unusedVariables false
set_option linter.unusedSimpArgs false
open Go.RowKit

section
variable {w : World} {p gl a s : Nat} {B : List Nat} {S : SS}
end
end Go.Proofs.YtmemoopkgjgmiaaGreatDoor

/- The document's slabs: one slab's rows; take. -/
namespace Go.Proofs.YtmemoopkgjgmiaaGreatDoor
set_option linter.unusedVariables false
set_option linter.unusedSimpArgs false
open Go.RowKit

section
variable {w w' : World} {p gl a s : Nat} {B S' : List Nat} {S : SS}
theorem SS.set_set (S : SS) (i c c' : Nat) (F F' L L' : List Nat) : (S.set i c F L).set i c' F' L' = S.set i c' F' L' := by
  unfold SS.set
  dsimp only
  rw [up_up, up_up, up_up]
end
end Go.Proofs.YtmemoopkgjgmiaaGreatDoor
