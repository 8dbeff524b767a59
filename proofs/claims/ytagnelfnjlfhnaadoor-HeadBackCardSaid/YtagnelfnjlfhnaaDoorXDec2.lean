/- ref13.Decode, whole. -/
import Derived.Test.YtagnelfnjlfhnaaDoorXDec
namespace Go.Proofs.YtagnelfnjlfhnaaDoor
set_option linter.unusedVariables false
open Go.RowKit

theorem decN_2 (b : List Nat) (t : Nat) (ht : t < 3) : decN b t 2 = b[2]?.getD 0 := by
  rcases t with _ | _ | _ | t <;> try omega
  all_goals simp [decN, whZ, wh, commonL, ldTo]
theorem szZ_8 (t : Nat) (ht : t < 3) : 8 ≤ szZ t := by
  rcases t with _ | _ | _ | t <;> first | omega | decide
theorem decX_ok (b : List Nat) (hb : ∀ x ∈ b, x < 256) (t : Int) : ∀ k, (decX b t k).Ok
  | 0 => zero_ok
  | k + 1 => by
    unfold decX
    split
    · exact decX_ok b hb t k
    · exact setN_ok _ (decX_ok b hb t k) _ _ (ldTo_lt64 b hb _ _ (wh_in t k).1)

theorem gen12' {w : World} {g : Nat} {t : TypeId} {cs : Array Value} {v0 v1 v2 v3 v4 v5 v6 v7 v8 v9 v10 v11 : Value} (C : World → Prop) (h : Blk w g t cs) (hs : cs.size = 12)
    (K : ∀ w9, Blk w9 g t #[v0, v1, v2, v3, v4, v5, v6, v7, v8, v9, v10, v11] → Fr [g] w w9 → C w9) : C ((((((((((((w.setCell ⟨g, 0, none⟩ v0).setCell ⟨g, 1, none⟩ v1).setCell ⟨g, 2, none⟩ v2).setCell ⟨g, 3, none⟩ v3).setCell ⟨g, 4, none⟩ v4).setCell ⟨g, 5, none⟩ v5).setCell ⟨g, 6, none⟩ v6).setCell ⟨g, 7, none⟩ v7).setCell ⟨g, 8, none⟩ v8).setCell ⟨g, 9, none⟩ v9).setCell ⟨g, 10, none⟩ v10).setCell ⟨g, 11, none⟩ v11) :=
  gen12 C h hs (Fr.refl [g] w) (.inl (by simp)) K

def XDecRel (w : World) (n5 n2 : Nat) (D : Nat → HB) (v : Value) (wr : World) : Prop :=
  ∃ k : Nat, k ≤ 12 ∧ v = .int .i64 k ∧ Fr [] w wr ∧ Blk wr n2 26 zeroC ∧ Blk wr n5 26 (D k).cells

set_option maxRecDepth 100000 in
set_option maxHeartbeats 8000000 in
theorem xdecode_yes (w : World) (g o c b n : Nat) (l : List Nat) (hB : Byt w (some ⟨g, o, none⟩) l) (hl : l.length = n) (h0 : 0 < n) (hb : l[0]?.getD 0 = b) (h2 : b ≤ 2) (h3 : szZ (b : Nat) ≤ n) (r : Bool) (hr : (HB.ofNums (decN l (b : Nat))).right = r) (d : Nat × HB) (hd : d = if 1 < decN l (b : Nat) 2 ∨ r = false then (4, HB.zero) else (0, HB.ofNums (decN l (b : Nat)))) :
    Calls Tryd.prog 12 #[.slice (some ⟨g, o, none⟩) n c] w fun e w' => e = .returned (decV d) ∧ Fr [] w w' := by
  have hd0 : ((n : Int) == 0) = false := by simp; omega
  have b1 : decide ((2 : Int) < (b : Int)) = false := by simp; omega
  have hsz := fun W => xsize_any W (b : Nat)
  have hn8 : 8 ≤ n := Nat.le_trans (szZ_8 b (by omega)) h3
  have hn2 : n ≤ 1099511627776 := by rw [← hl]; exact hB.len
  have hrt := fun W => xright_any W (HB.ofNums (decN l (b : Nat))) (ofNums_ok _ (decN_lt l hB.byte _))
  rw [hr] at hrt
  have HWI := Lib.hid (fun f => wh_in (b : Nat) f)
  have hX12 := decX_all l b (by omega)
  have hD2 := decN_2 l b (by omega)
  have HDS := Lib.hid (show ∀ k : Nat, decX l (b : Nat) (k + 1) = if (whZ (b : Nat) k).2 = 0 then decX l (b : Nat) k else (decX l (b : Nat) k).setN (ldTo l (whZ (b : Nat) k).1 (whZ (b : Nat) k).2) k from fun _ => rfl)
  have hpl := fun W f => xwhere_any W (b : Nat) f
  obtain ⟨sz, hszd⟩ : ∃ sz, sz = szZ (b : Nat) := ⟨_, rfl⟩
  rw [← hszd] at hsz h3 HWI
  have b3 : decide (n < sz) = false := by simp; omega
  obtain ⟨_, _, e, hc, hg⟩ := hB.at_ 0 (by omega)
  obtain ⟨rfl, rfl⟩ : g = _ ∧ o = _ := by injection e with e; injection e with e1 e2; exact ⟨e1, e2⟩
  rw [hb, Nat.add_zero] at hc
  have hD0 : decX l (b : Nat) 0 = HB.zero := rfl
  have HD0 := Lib.hid hD0
  generalize decX l (b : Nat) = D at *
  generalize decN l (b : Nat) = N at *
  generalize HB.ofNums N = X at *
  have hXv : X.val = .agg #[.int .i64 X.tag, .int .i64 X.cls, .bool X.used, .int .i64 X.label, .int .u32 X.name, .int .u32 X.next, .int .u32 X.prev, .int .u32 X.refs, .int .u64 X.expiry, .int .u16 X.typ, .int .i64 X.size, .int .u32 X.hash] := rfl
  rw [hXv] at hrt
  rw [hD2] at hd
  have hDR := Lib.hid (show ∀ n5 n2 v wr, XDecRel w n5 n2 D v wr = (∃ k : Nat, k ≤ 12 ∧ v = .int .i64 k ∧ Fr [] w wr ∧ Blk wr n2 26 zeroC ∧ Blk wr n5 26 (D k).cells) from fun _ _ _ _ => rfl)
  have HR := Lib.hid (show ∀ n5 n2, XDecRel w n5 n2 D = XDecRel w n5 n2 D from fun _ _ => rfl)
  obtain ⟨R, hR⟩ : ∃ R, R = fun n5 n2 => XDecRel w n5 n2 D := ⟨_, rfl⟩
  have hDR2 : ∀ n5 n2 v wr, R n5 n2 v wr = (∃ k : Nat, k ≤ 12 ∧ v = .int .i64 k ∧ Fr [] w wr ∧ Blk wr n2 26 zeroC ∧ Blk wr n5 26 (D k).cells) := by rw [hR]; exact hDR.out
  have HDR := Lib.hid hDR2
  have HD := Lib.hid hd
  have HL := Lib.hid hl
  have HBy := Lib.hid hB
  have HX12 := Lib.hid hX12
  have hzz : zeroC = #[.int .i64 0, .int .i64 0, .bool false, .int .i64 0, .int .u32 0, .int .u32 0, .int .u32 0, .int .u32 0, .int .u64 0, .int .u16 0, .int .i64 0, .int .u32 0] := rfl
  have HZZ := Lib.hid hzz
  clear hr hd hl hb hszd hB e hzz hX12 hD2 hD0 hDR hDR2 hR HR hXv
  go_enter Tryd.func12, Tryd.ntmps12
  go_wp2_with fail
  with_reducible refine (hsz _).mono ?_
  rintro e w2 ⟨rfl, f2⟩
  have hZ2 := ((Blk.new w 26 zeroC).fr f2 (by simp)).alloc (.cells zeroC 26)
  have hF2 := (((Fr.refl [] w).alloc (.cells zeroC 26)).trans f2).alloc (.cells zeroC 26)
  have hX2 : Blk (w2.alloc (.cells zeroC 26)) w2.heap.size 26 (D 0).cells := by rw [HD0.out]; exact Blk.new _ _ _
  have hpl2 : w.heap.size < w2.heap.size := Nat.lt_of_lt_of_le (by simp) f2.size
  rw [HZZ.out] at hZ2 hF2 hX2
  clear hsz f2
  go_wp2_with fail
  generalize w2.heap.size = p5 at *
  go_loopw [6] (fun v W => R p5 w.heap.size v W) (fun v _ => 12 - (intOf v).toNat)
  case atStart => rw [HDR.out]; exact ⟨0, by omega, rfl, hF2, by rw [HZZ.out]; exact hZ2, hX2⟩
  case round =>
    clear hF2 hZ2 hX2
    rw [HDR.out] at hrel
    obtain ⟨k, hk, rfl, hF, hZ, hX⟩ := hrel
    by_cases hlt : k < 12
    · have hp := fun W => hpl W k
      have hds := HDS.out k
      have hwi := HWI.out k
      clear hpl
      generalize whZ (b : Nat) k = ab at *
      obtain ⟨x, y⟩ := ab
      simp only [twoV] at hp
      simp only at hds hwi
      by_cases hy : y = 0
      · subst hy
        rw [if_pos rfl] at hds
        have HS := Lib.hid hds
        clear hds hwi
        go_wp2_with fail
        with_reducible refine (hp _).mono ?_
        rintro e w3 ⟨rfl, f3⟩
        have hF3 := hF.trans f3
        have hZ3 := hZ.fr f3 (by simp)
        have hX3 := hX.fr f3 (by simp)
        go_wp2_with fail
        rw [HDR.out]
        exact ⟨⟨k + 1, by omega, by go_num, hF3, hZ3, by rw [HS.out]; exact hX3⟩, by simp [intOf]; omega⟩
      · rw [if_neg hy] at hds
        have by0 : decide ((0 : Int) < y) = true := by simp; omega
        have htk : ∀ W, Fr [] w W → Calls Tryd.prog 33 #[.slice (some ⟨g, o, none⟩) n c, .int .i64 x, .int .i64 y] W fun e w' => e = .returned (.int .u64 (ldTo l x y)) ∧ w' = W := fun W hf => by
          have hby := HBy.out.fr hf (by simp)
          have := taken_any W g o c l x y (by omega) (by rw [HL.out]; omega) hby.len (fun i hi => by
            obtain ⟨g', o', e, hc, _⟩ := hby.at_ i hi
            injection e with e
            injection e with e1 e2 e3
            subst e1; subst e2
            exact hc) hby.byte
          rwa [HL.out] at this
        have hwt := fun W => with_any W (D k) (ldTo l x y) k hlt
        have HS := Lib.hid hds
        have hDv : (D k).val = .agg #[.int .i64 (D k).tag, .int .i64 (D k).cls, .bool (D k).used, .int .i64 (D k).label, .int .u32 (D k).name, .int .u32 (D k).next, .int .u32 (D k).prev, .int .u32 (D k).refs, .int .u64 (D k).expiry, .int .u16 (D k).typ, .int .i64 (D k).size, .int .u32 (D k).hash] := rfl
        have hSv : ((D k).setN (ldTo l x y) k).val = .agg ((D k).setN (ldTo l x y) k).cells := rfl
        rw [hDv] at hwt
        rw [hSv] at hwt
        generalize ((D k).setN (ldTo l x y) k) = Y at *
        have hYc : Y.cells = #[.int .i64 Y.tag, .int .i64 Y.cls, .bool Y.used, .int .i64 Y.label, .int .u32 Y.name, .int .u32 Y.next, .int .u32 Y.prev, .int .u32 Y.refs, .int .u64 Y.expiry, .int .u16 Y.typ, .int .i64 Y.size, .int .u32 Y.hash] := rfl
        rw [hYc] at hwt
        generalize ldTo l x y = m at *
        clear hds hwi hDv hSv hYc
        go_wp2_with fail
        with_reducible refine (hp _).mono ?_
        rintro e w3 ⟨rfl, f3⟩
        have hF3 := (hF.trans f3).drew
        have hZ3 := (hZ.fr f3 (by simp)).drew
        have hX3 := (hX.fr f3 (by simp)).drew
        clear f3 hF hZ hX hp
        go_wp2_with fail
        refine wp_region_still_tail 6 (by kernel_rfl) (by kernel_rfl) ?_
        simp only [List.take_succ_cons, List.take_zero, List.drop_succ_cons, List.drop_zero]
        change wpStill _ _ w3.drew (fun a' => wpList _ _ _ _ a' w3.drew) _ _
        generalize w3.drew = w4 at hF3 hZ3 hX3 ⊢
        (have c0 := hX3.cell 0; have c1 := hX3.cell 1; have c2 := hX3.cell 2; have c3 := hX3.cell 3; have c4 := hX3.cell 4; have c5 := hX3.cell 5; have c6 := hX3.cell 6; have c7 := hX3.cell 7; have c8 := hX3.cell 8; have c9 := hX3.cell 9; have c10 := hX3.cell 10; have c11 := hX3.cell 11; simp [HB.cells] at c0 c1 c2 c3 c4 c5 c6 c7 c8 c9 c10 c11)
        repeat still_step
        still_call (htk _ hF3)
        repeat still_step
        refine wpStill_nil ?_
        go_wp2_with fail
        with_reducible refine (hwt _).mono ?_
        rintro e w5 ⟨rfl, f5⟩
        have hF5 := hF3.trans f5
        have hZ5 := hZ3.fr f5 (by simp)
        have hX5 := hX3.fr f5 (by simp)
        clear f5 hF3 hZ3 hX3 hwt htk
        clear c0 c1 c2 c3 c4 c5 c6 c7 c8 c9 c10 c11
        (have d0 := hX5.cell 0; have z0 := hX5.frozen 0; have d1 := hX5.cell 1; have z1 := hX5.frozen 1; have d2 := hX5.cell 2; have z2 := hX5.frozen 2; have d3 := hX5.cell 3; have z3 := hX5.frozen 3; have d4 := hX5.cell 4; have z4 := hX5.frozen 4; have d5 := hX5.cell 5; have z5 := hX5.frozen 5; have d6 := hX5.cell 6; have z6 := hX5.frozen 6; have d7 := hX5.cell 7; have z7 := hX5.frozen 7; have d8 := hX5.cell 8; have z8 := hX5.frozen 8; have d9 := hX5.cell 9; have z9 := hX5.frozen 9; have d10 := hX5.cell 10; have z10 := hX5.frozen 10; have d11 := hX5.cell 11; have z11 := hX5.frozen 11; simp [HB.cells] at d0 d1 d2 d3 d4 d5 d6 d7 d8 d9 d10 d11)
        go_wp2_with fail
        refine gen12' (fun w9 => R _ _ _ w9 ∧ _) hX5 rfl ?_
        intro w9 hX9 hf9
        rw [HDR.out]
        exact ⟨⟨k + 1, by omega, by go_num, hF5.step hf9 (by simp; omega), hZ5.fr hf9 (by simp; omega), by rw [HS.out]; exact hX9⟩, by simp [intOf]; omega⟩
    · obtain rfl : k = 12 := by omega
      clear hpl
      rw [HX12.out] at hX
      have hby := HBy.out.fr hF (by simp)
      obtain ⟨_, _, e, hc2, hg2⟩ := hby.at_ 2 (by rw [HL.out]; omega)
      obtain ⟨rfl, rfl⟩ : g = _ ∧ o = _ := by injection e with e; injection e with e1 e2; exact ⟨e1, e2⟩
      clear e hby
      have hd := HD.out
      rw [HZZ.out] at hZ
      have l2 : (2 : Int) < n := by omega
      have l2' : 2 < n := by omega
      generalize l[2]?.getD 0 = y at *
      by_cases h1 : 1 < y
      · have b4 : decide ((1 : Int) < (y : Nat)) = true := by simp; omega
        rw [if_pos (.inl h1)] at hd
        have HD2 := Lib.hid hd
        (have d0 := hZ.cell 0; have z0 := hZ.frozen 0; have d1 := hZ.cell 1; have z1 := hZ.frozen 1; have d2 := hZ.cell 2; have z2 := hZ.frozen 2; have d3 := hZ.cell 3; have z3 := hZ.frozen 3; have d4 := hZ.cell 4; have z4 := hZ.frozen 4; have d5 := hZ.cell 5; have z5 := hZ.frozen 5; have d6 := hZ.cell 6; have z6 := hZ.frozen 6; have d7 := hZ.cell 7; have z7 := hZ.frozen 7; have d8 := hZ.cell 8; have z8 := hZ.frozen 8; have d9 := hZ.cell 9; have z9 := hZ.frozen 9; have d10 := hZ.cell 10; have z10 := hZ.frozen 10; have d11 := hZ.cell 11; have z11 := hZ.frozen 11; simp [HB.cells] at d0 d1 d2 d3 d4 d5 d6 d7 d8 d9 d10 d11)
        clear hd h1 hrt hX HBy HL HWI HDS
        go_wp2_with fail
        refine gen12 (fun w9 => bodyPost _ _ _ _ _ w9) hZ rfl hF (.inr (Nat.le_refl _)) ?_
        intro w9 hn9 hf9
        (have q0 := hn9.cell 0; have q1 := hn9.cell 1; have q2 := hn9.cell 2; have q3 := hn9.cell 3; have q4 := hn9.cell 4; have q5 := hn9.cell 5; have q6 := hn9.cell 6; have q7 := hn9.cell 7; have q8 := hn9.cell 8; have q9 := hn9.cell 9; have q10 := hn9.cell 10; have q11 := hn9.cell 11; simp at q0 q1 q2 q3 q4 q5 q6 q7 q8 q9 q10 q11)
        refine bodyPost_ret (by simp [results, Tryd.results12, go_sem, q0, q1, q2, q3, q4, q5, q6, q7, q8, q9, q10, q11]; try rfl) rfl ⟨?_, hf9⟩
        rw [HD2.out]
        rfl
      · have b4 : decide ((1 : Int) < (y : Nat)) = false := by simp; omega
        (have c0 := hX.cell 0; have c1 := hX.cell 1; have c2 := hX.cell 2; have c3 := hX.cell 3; have c4 := hX.cell 4; have c5 := hX.cell 5; have c6 := hX.cell 6; have c7 := hX.cell 7; have c8 := hX.cell 8; have c9 := hX.cell 9; have c10 := hX.cell 10; have c11 := hX.cell 11; simp [HB.cells] at c0 c1 c2 c3 c4 c5 c6 c7 c8 c9 c10 c11)
        cases r
        · rw [if_pos (.inr rfl)] at hd
          have HD2 := Lib.hid hd
          clear hd h1 HBy HL HWI HDS hX
          go_wp2_with fail
          with_reducible refine (hrt _).mono ?_
          rintro e w5 ⟨rfl, f5⟩
          have hZ5 := hZ.fr f5 (by simp)
          have hF5 := hF.trans f5
          (have d0 := hZ5.cell 0; have z0 := hZ5.frozen 0; have d1 := hZ5.cell 1; have z1 := hZ5.frozen 1; have d2 := hZ5.cell 2; have z2 := hZ5.frozen 2; have d3 := hZ5.cell 3; have z3 := hZ5.frozen 3; have d4 := hZ5.cell 4; have z4 := hZ5.frozen 4; have d5 := hZ5.cell 5; have z5 := hZ5.frozen 5; have d6 := hZ5.cell 6; have z6 := hZ5.frozen 6; have d7 := hZ5.cell 7; have z7 := hZ5.frozen 7; have d8 := hZ5.cell 8; have z8 := hZ5.frozen 8; have d9 := hZ5.cell 9; have z9 := hZ5.frozen 9; have d10 := hZ5.cell 10; have z10 := hZ5.frozen 10; have d11 := hZ5.cell 11; have z11 := hZ5.frozen 11; simp [HB.cells] at d0 d1 d2 d3 d4 d5 d6 d7 d8 d9 d10 d11)
          clear c0 c1 c2 c3 c4 c5 c6 c7 c8 c9 c10 c11
          clear hrt f5 hZ hF
          go_wp2_with fail
          refine gen12 (fun w9 => bodyPost _ _ _ _ _ w9) hZ5 rfl hF5 (.inr (Nat.le_refl _)) ?_
          intro w9 hn9 hf9
          (have q0 := hn9.cell 0; have q1 := hn9.cell 1; have q2 := hn9.cell 2; have q3 := hn9.cell 3; have q4 := hn9.cell 4; have q5 := hn9.cell 5; have q6 := hn9.cell 6; have q7 := hn9.cell 7; have q8 := hn9.cell 8; have q9 := hn9.cell 9; have q10 := hn9.cell 10; have q11 := hn9.cell 11; simp at q0 q1 q2 q3 q4 q5 q6 q7 q8 q9 q10 q11)
          refine bodyPost_ret (by simp [results, Tryd.results12, go_sem, q0, q1, q2, q3, q4, q5, q6, q7, q8, q9, q10, q11]; try rfl) rfl ⟨?_, hf9⟩
          rw [HD2.out]
          rfl
        · rw [if_neg (by simp; omega)] at hd
          have HD2 := Lib.hid hd
          clear hd h1 HBy HL HWI HDS
          go_wp2_with fail
          with_reducible refine (hrt _).mono ?_
          rintro e w5 ⟨rfl, f5⟩
          have hZ5 := hZ.fr f5 (by simp)
          have hF5 := hF.trans f5
          have hX5 := hX.fr f5 (by simp)
          clear c0 c1 c2 c3 c4 c5 c6 c7 c8 c9 c10 c11
          (have d0 := hZ5.cell 0; have z0 := hZ5.frozen 0; have d1 := hZ5.cell 1; have z1 := hZ5.frozen 1; have d2 := hZ5.cell 2; have z2 := hZ5.frozen 2; have d3 := hZ5.cell 3; have z3 := hZ5.frozen 3; have d4 := hZ5.cell 4; have z4 := hZ5.frozen 4; have d5 := hZ5.cell 5; have z5 := hZ5.frozen 5; have d6 := hZ5.cell 6; have z6 := hZ5.frozen 6; have d7 := hZ5.cell 7; have z7 := hZ5.frozen 7; have d8 := hZ5.cell 8; have z8 := hZ5.frozen 8; have d9 := hZ5.cell 9; have z9 := hZ5.frozen 9; have d10 := hZ5.cell 10; have z10 := hZ5.frozen 10; have d11 := hZ5.cell 11; have z11 := hZ5.frozen 11; simp [HB.cells] at d0 d1 d2 d3 d4 d5 d6 d7 d8 d9 d10 d11)
          (have c0 := hX5.cell 0; have c1 := hX5.cell 1; have c2 := hX5.cell 2; have c3 := hX5.cell 3; have c4 := hX5.cell 4; have c5 := hX5.cell 5; have c6 := hX5.cell 6; have c7 := hX5.cell 7; have c8 := hX5.cell 8; have c9 := hX5.cell 9; have c10 := hX5.cell 10; have c11 := hX5.cell 11; simp [HB.cells] at c0 c1 c2 c3 c4 c5 c6 c7 c8 c9 c10 c11)
          clear hrt f5 hZ hF hX hX5
          go_wp2_with fail
          refine gen12 (fun w9 => bodyPost _ _ _ _ _ w9) hZ5 rfl hF5 (.inr (Nat.le_refl _)) ?_
          intro w9 hn9 hf9
          (have q0 := hn9.cell 0; have q1 := hn9.cell 1; have q2 := hn9.cell 2; have q3 := hn9.cell 3; have q4 := hn9.cell 4; have q5 := hn9.cell 5; have q6 := hn9.cell 6; have q7 := hn9.cell 7; have q8 := hn9.cell 8; have q9 := hn9.cell 9; have q10 := hn9.cell 10; have q11 := hn9.cell 11; simp at q0 q1 q2 q3 q4 q5 q6 q7 q8 q9 q10 q11)
          refine bodyPost_ret (by simp [results, Tryd.results12, go_sem, q0, q1, q2, q3, q4, q5, q6, q7, q8, q9, q10, q11]; try rfl) rfl ⟨?_, hf9⟩
          rw [HD2.out]
          rfl

theorem xdecode_any (w : World) (a : Option Addr) (c : Nat) (l : List Nat) (h : Byt w a l) :
    Calls Tryd.prog 12 #[.slice a l.length c] w fun e w' => e = .returned (decV (dec l)) ∧ Fr [] w w' := by
  by_cases h0 : l.length = 0
  · have hd : dec l = (3, HB.zero) := by rw [dec, if_pos h0]
    rw [hd, h0]
    exact xdecode_e0 w a c
  obtain ⟨g, o, rfl, hc, hg⟩ := h.at_ 0 (by omega)
  rw [Nat.add_zero] at hc
  have hb : l[0]?.getD 0 < 256 := by
    rcases e : l[0]? with _ | x
    · simp
    · simpa using h.byte x (List.mem_of_getElem? e)
  by_cases h2 : 2 < l[0]?.getD 0
  · have hd : dec l = (4, HB.zero) := by rw [dec, if_neg h0, if_pos h2]
    rw [hd]
    exact xdecode_e1 w g o l.length c _ (by omega) h.len hc hg h2 hb
  by_cases h3 : l.length < szZ (l[0]?.getD 0 : Nat)
  · have hd : dec l = (3, HB.zero) := by rw [dec, if_neg h0, if_neg h2, if_pos h3]
    rw [hd]
    exact xdecode_e2 w g o l.length c _ (by omega) h.len hc hg (by omega) h3
  have hd : dec l = if 1 < decN l (l[0]?.getD 0 : Nat) 2 ∨ (HB.ofNums (decN l (l[0]?.getD 0 : Nat))).right = false then (4, HB.zero) else (0, HB.ofNums (decN l (l[0]?.getD 0 : Nat))) := by
    rw [dec, if_neg h0, if_neg h2, if_neg h3]
  exact xdecode_yes w g o c _ _ l h rfl (by omega) rfl (by omega) (by omega) _ rfl _ hd
end Go.Proofs.YtagnelfnjlfhnaaDoor
