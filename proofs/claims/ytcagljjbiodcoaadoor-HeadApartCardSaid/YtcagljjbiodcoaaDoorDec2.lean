/- head.Decode: what it answers to bytes that are no head. -/
import Derived.Test.YtcagljjbiodcoaaDoorDec
namespace Go.Proofs.YtcagljjbiodcoaaDoor
set_option linter.unusedVariables false
open Go.RowKit

/-- Twelve cells of a block are stored, one by one: the world may be taken for any that has them. -/
theorem gen12 {w w0 : World} {g : Nat} {t : TypeId} {cs : Array Value} {S : List Nat} {v0 v1 v2 v3 v4 v5 v6 v7 v8 v9 v10 v11 : Value} (C : World → Prop) (h : Blk w g t cs) (hs : cs.size = 12) (hf : Fr S w0 w) (hg : g ∈ S ∨ w0.heap.size ≤ g)
    (K : ∀ w9, Blk w9 g t #[v0, v1, v2, v3, v4, v5, v6, v7, v8, v9, v10, v11] → Fr S w0 w9 → C w9) : C ((((((((((((w.setCell ⟨g, 0, none⟩ v0).setCell ⟨g, 1, none⟩ v1).setCell ⟨g, 2, none⟩ v2).setCell ⟨g, 3, none⟩ v3).setCell ⟨g, 4, none⟩ v4).setCell ⟨g, 5, none⟩ v5).setCell ⟨g, 6, none⟩ v6).setCell ⟨g, 7, none⟩ v7).setCell ⟨g, 8, none⟩ v8).setCell ⟨g, 9, none⟩ v9).setCell ⟨g, 10, none⟩ v10).setCell ⟨g, 11, none⟩ v11) := by
  have := K (w.setCells g 0 [v0, v1, v2, v3, v4, v5, v6, v7, v8, v9, v10, v11]) (by
    have := h.setCells [v0, v1, v2, v3, v4, v5, v6, v7, v8, v9, v10, v11] 0
    rw [laid_all _ _ (by rw [hs]; rfl)] at this
    exact this) (hf.setCells hg _ _)
  exact this

def decV (d : Nat × HB) : Value := .tuple #[d.2.val, .int .i64 d.1]

set_option maxRecDepth 100000 in
set_option maxHeartbeats 4000000 in
theorem decode_e0 (w : World) (a : Option Addr) (c : Nat) :
    Calls Tryd.prog 64 #[.slice a 0 c] w fun e w' => e = .returned (decV (3, HB.zero)) ∧ Fr [] w w' := by
  go_enter Tryd.func64, Tryd.ntmps64
  go_wp2_with fail
  go_returns
  exact ⟨rfl, by repeat (first | exact Fr.refl _ _ | apply Fr.alloc | apply Fr.drew | apply Fr.drewN | (refine Fr.setCell ?_ (Or.inr (by simp)) _))⟩

set_option maxRecDepth 100000 in
set_option maxHeartbeats 4000000 in
theorem decode_e1 (w : World) (g o n c b : Nat) (hn : 0 < n) (hn2 : n ≤ 1099511627776) (hc : w.cell? ⟨g, o, none⟩ = some (.int .u8 (b : Int))) (hg : g < w.heap.size) (h2 : 2 < b) (hb : b < 256) :
    Calls Tryd.prog 64 #[.slice (some ⟨g, o, none⟩) n c] w fun e w' => e = .returned (decV (4, HB.zero)) ∧ Fr [] w w' := by
  have hi := fun w => is_any w (b : Nat)
  have b1 : (decide (0 ≤ (b : Int)) && decide ((b : Int) < 3)) = false := by simp; omega
  rw [b1] at hi
  have hd0 : ((n : Int) == 0) = false := by simp; omega
  clear b1
  go_enter Tryd.func64, Tryd.ntmps64
  go_wp2_with fail
  refine (hi _).mono ?_
  rintro e w' ⟨rfl, rfl⟩
  go_wp2_with fail
  go_returns
  exact ⟨rfl, by repeat (first | exact Fr.refl _ _ | apply Fr.alloc | apply Fr.drew | apply Fr.drewN | (refine Fr.setCell ?_ (Or.inr (by simp)) _))⟩

set_option maxRecDepth 100000 in
set_option maxHeartbeats 4000000 in
theorem decode_e2 (w : World) (hT : Tabs w) (g o n c b : Nat) (hn : 0 < n) (hn2 : n ≤ 1099511627776) (hc : w.cell? ⟨g, o, none⟩ = some (.int .u8 (b : Int))) (hg : g < w.heap.size) (h2 : b ≤ 2) (h3 : n < szZ (b : Nat)) :
    Calls Tryd.prog 64 #[.slice (some ⟨g, o, none⟩) n c] w fun e w' => e = .returned (decV (3, HB.zero)) ∧ Fr [] w w' := by
  have hi := fun w => is_any w (b : Nat)
  have b1 : (decide (0 ≤ (b : Int)) && decide ((b : Int) < 3)) = true := by simp; omega
  rw [b1] at hi
  have hd0 : ((n : Int) == 0) = false := by simp; omega
  have hsz := fun W h => size_any W h (b : Nat)
  generalize szZ (b : Nat) = sz at *
  have b3 : decide (n < sz) = true := by simp; omega
  clear b1
  go_enter Tryd.func64, Tryd.ntmps64
  go_wp2_with fail
  refine (hi _).mono ?_
  rintro e w' ⟨rfl, rfl⟩
  go_wp2_with fail
  with_reducible refine (hsz _ (hT.alloc _)).mono ?_
  rintro e w' ⟨rfl, rfl⟩
  go_wp2_with fail
  go_returns
  exact ⟨rfl, by repeat (first | exact Fr.refl _ _ | apply Fr.alloc | apply Fr.drew | apply Fr.drewN | (refine Fr.setCell ?_ (Or.inr (by simp)) _))⟩

def DecRel (w : World) (g o : Nat) (l : List Nat) (N : Nat → Nat) (n5 n2 : Nat) (v : Value) (wr : World) : Prop :=
  ∃ k : Nat, k ≤ 12 ∧ v = .int .i64 k ∧ Fr [] w wr ∧ Tabs wr ∧ Blk wr n2 43 zeroC ∧ Blk wr n5 98 (numsA N k)

set_option maxRecDepth 100000 in
set_option maxHeartbeats 8000000 in
theorem decode_yes (w : World) (hT : Tabs w) (g o c b n : Nat) (l : List Nat) (hB : Byt w (some ⟨g, o, none⟩) l) (hl : l.length = n) (h0 : 0 < n) (hb : l[0]?.getD 0 = b) (h2 : b ≤ 2) (h3 : szZ (b : Nat) ≤ n) (r : Bool) (hr : (HB.ofNums (decN l (b : Nat))).right = r) (d : Nat × HB) (hd : d = if 1 < decN l (b : Nat) 2 ∨ r = false then (4, HB.zero) else (0, HB.ofNums (decN l (b : Nat)))) :
    Calls Tryd.prog 64 #[.slice (some ⟨g, o, none⟩) n c] w fun e w' => e = .returned (decV d) ∧ Fr [] w w' := by
  have hi := fun w => is_any w (b : Nat)
  have b1 : (decide (0 ≤ (b : Int)) && decide ((b : Int) < 3)) = true := by simp; omega
  rw [b1] at hi
  have hd0 : ((n : Int) == 0) = false := by simp; omega
  have hsz := fun W h => size_any W h (b : Nat)
  obtain ⟨sz, hszd⟩ : ∃ sz, sz = szZ (b : Nat) := ⟨_, rfl⟩
  rw [← hszd] at hsz h3
  have b3 : decide (n < sz) = false := by simp; omega
  have hn2 : n ≤ 1099511627776 := by rw [← hl]; exact hB.len
  have hbl := fun W => block_any W (decN l (b : Nat))
  have hrt := fun W h => right_any W h (HB.ofNums (decN l (b : Nat))) (ofNums_ok _ (decN_lt l hB.byte _))
  rw [hr] at hrt
  have hwpl := wh_place n (b : Nat)
  rw [← hszd] at hwpl
  have HWP := Lib.hid hwpl
  clear hwpl
  have HWZ := Lib.hid (fun f => wh_zero (b : Nat) f)
  have HDN := Lib.hid (show ∀ f, decN l (b : Nat) f = if (whZ (b : Nat) f).2 = 0 then 0 else ldTo l (whZ (b : Nat) f).1 (whZ (b : Nat) f).2 from fun _ => rfl)
  have HLT := Lib.hid (decN_lt l hB.byte (b : Nat))
  have hpl := fun W h f => place_any W h (b : Nat) f
  obtain ⟨_, _, e, hc, hg⟩ := hB.at_ 0 (by omega)
  obtain ⟨rfl, rfl⟩ : g = _ ∧ o = _ := by injection e with e; injection e with e1 e2; exact ⟨e1, e2⟩
  rw [hb] at hc
  rw [Nat.add_zero] at hc
  have hDR := Lib.hid (show ∀ n5 n2 v wr, DecRel w g o l (decN l (b : Nat)) n5 n2 v wr = (∃ k : Nat, k ≤ 12 ∧ v = .int .i64 k ∧ Fr [] w wr ∧ Tabs wr ∧ Blk wr n2 43 zeroC ∧ Blk wr n5 98 (numsA (decN l (b : Nat)) k)) from fun _ _ _ _ => rfl)
  generalize DecRel w g o l (decN l (b : Nat)) = R at *
  have HZ := Lib.hid (numsA_0 (decN l (b : Nat)))
  generalize decN l (b : Nat) = N at *
  have hXv : (HB.ofNums N).val = .agg #[.int .i64 (HB.ofNums N).tag, .int .i64 (HB.ofNums N).cls, .bool (HB.ofNums N).used, .int .i64 (HB.ofNums N).label, .int .u32 (HB.ofNums N).name, .int .u32 (HB.ofNums N).next, .int .u32 (HB.ofNums N).prev, .int .u32 (HB.ofNums N).refs, .int .u64 (HB.ofNums N).expiry, .int .u16 (HB.ofNums N).typ, .int .i64 (HB.ofNums N).size, .int .u32 (HB.ofNums N).hash] := rfl
  rw [hXv] at hrt
  have hbl : ∀ W, Calls Tryd.prog 68 #[.agg (numsA N 12)] W fun e w' => e = .returned (.agg #[.int .i64 (HB.ofNums N).tag, .int .i64 (HB.ofNums N).cls, .bool (HB.ofNums N).used, .int .i64 (HB.ofNums N).label, .int .u32 (HB.ofNums N).name, .int .u32 (HB.ofNums N).next, .int .u32 (HB.ofNums N).prev, .int .u32 (HB.ofNums N).refs, .int .u64 (HB.ofNums N).expiry, .int .u16 (HB.ofNums N).typ, .int .i64 (HB.ofNums N).size, .int .u32 (HB.ofNums N).hash]) ∧ Fr [] W w' := hbl
  generalize HB.ofNums N = X at *
  clear hXv
  have HD := Lib.hid hd
  have HL := Lib.hid hl
  have HBy := Lib.hid hB
  have hzz : zeroC = #[.int .i64 0, .int .i64 0, .bool false, .int .i64 0, .int .u32 0, .int .u32 0, .int .u32 0, .int .u32 0, .int .u64 0, .int .u16 0, .int .i64 0, .int .u32 0] := rfl
  have HZZ := Lib.hid hzz
  clear b1 hr hd hl hb hszd hB e hzz
  go_enter Tryd.func64, Tryd.ntmps64
  go_wp2_with fail
  refine (hi _).mono ?_
  rintro e w' ⟨rfl, rfl⟩
  go_wp2_with fail
  with_reducible refine (hsz _ (hT.alloc _)).mono ?_
  rintro e w' ⟨rfl, rfl⟩
  clear hsz hi
  go_wp2_with fail
  go_loopw [27] (fun v W => R (w.heap.size + 1) w.heap.size v W) (fun v _ => 12 - (intOf v).toNat)
  case atStart =>
    rw [hDR.out]
    refine ⟨0, by omega, rfl, by repeat (first | exact Fr.refl _ _ | apply Fr.alloc | apply Fr.drew | apply Fr.drewN | (refine Fr.setCell ?_ (Or.inr (by simp)) _)), (hT.alloc _).alloc _, ?_, ?_⟩
    · rw [HZZ.out]; exact (Blk.new w _ _).alloc _
    · rw [HZ.out]
      have := Blk.new (w.alloc (.cells zeroC 43)) 98 #[.int .u64 0, .int .u64 0, .int .u64 0, .int .u64 0, .int .u64 0, .int .u64 0, .int .u64 0, .int .u64 0, .int .u64 0, .int .u64 0, .int .u64 0, .int .u64 0]
      rw [World.size_alloc] at this
      exact this
  case round =>
    rw [hDR.out] at hrel
    obtain ⟨k, hk, rfl, hF, hTr, hBz, hBn⟩ := hrel
    by_cases hlt : k < 12
    · have hp := fun W h => hpl W h k
      have hwz := HWZ.out k
      have hdn := HDN.out k
      have hwp := HWP.out k (by omega)
      have hcn := hBn.cell k
      have hfn := hBn.frozen k
      rw [numsA_get _ _ _ hlt, if_neg (Nat.lt_irrefl k)] at hcn
      have hs1 : w.heap.size + 1 < wr.heap.size := hBn.lt
      have hset := numsA_set N k hlt
      have hskip : N k = 0 → numsA N (k + 1) = numsA N k := fun e => by
        rw [← hset, e]
        apply Array.ext_getElem?
        intro i
        rw [Array.getElem?_setIfInBounds]
        by_cases e2 : k = i
        · subst e2
          rw [if_pos rfl, if_pos (by simp [numsA]; omega), numsA_get _ _ _ hlt, if_neg (Nat.lt_irrefl k)]
        · rw [if_neg e2]
      clear hpl
      by_cases hb0 : (whZ (b : Nat) k).2 = 0
      · have hp0 : ∀ W, Tabs W → Calls Tryd.prog 59 #[.int .i64 b, .int .i64 k] W fun e w' => e = .returned (.agg #[.int .i64 0, .int .i64 0]) ∧ Fr [] W w' := fun W h => by
          have := hp W h
          rw [hwz hb0] at this
          exact this
        have hE : ∀ w, (Op.equalIn 10000 101 (.agg #[.int .i64 0, .int .i64 0]) (.agg #[.int .i64 0, .int .i64 0])).run Tryd.prog w = .ok true w := fun w => eq_row 0 0 0 0 w
        have hNk : N k = 0 := by rw [hdn, if_pos hb0]
        have HS := Lib.hid (hskip hNk)
        clear hp hwz hdn hwp hcn hfn hset hskip hb0 hNk
        go_wp2_with fail
        with_reducible refine (hp0 _ hTr).mono ?_
        rintro e w3 ⟨rfl, f3⟩
        have hT3 := hTr.fr f3 (by simp)
        have hBz3 := hBz.fr f3 (by simp)
        have hBn3 := hBn.fr f3 (by simp)
        have hF3 := hF.trans f3
        have n0 := (hT3.alloc (.cells #[.int .i64 0, .int .i64 0] 101)).now 0
        have n1 := (hT3.alloc (.cells #[.int .i64 0, .int .i64 0] 101)).now 1
        simp [nowT, intsA] at n0 n1
        clear f3 hp0 hTr hBz hBn hF
        go_wp2_with fail
        rw [hDR.out]
        exact ⟨⟨k + 1, by omega, by go_num, hF3.alloc _, hT3.alloc _, hBz3.alloc _, by rw [HS.out]; exact hBn3.alloc _⟩, by simp [intOf]; omega⟩
      · have hwi := (wh_in (b : Nat) k).1
        have hp0 : ∀ W, Tabs W → Calls Tryd.prog 59 #[.int .i64 b, .int .i64 k] W fun e w' => e = .returned (.agg #[.int .i64 (whZ (b : Nat) k).1, .int .i64 (whZ (b : Nat) k).2]) ∧ Fr [] W w' := hp
        have hld : ∀ W, Fr [] w W → Calls Tryd.prog 91 #[.slice (some ⟨g, o, none⟩) n c, .int .i64 (whZ (b : Nat) k).1, .int .i64 (whZ (b : Nat) k).2] W fun e w' => e = .returned (.tuple #[.int .u64 (N k), .int .i64 0]) ∧ Fr [] W w' := fun W hf => by
          have := load_any W (some ⟨g, o, none⟩) c l (HBy.out.fr hf (by simp)) (whZ (b : Nat) k).1 (whZ (b : Nat) k).2
          unfold ldV at this
          rw [HL.out, hwp hb0, if_pos rfl, Int.toNat_natCast, Int.toNat_natCast] at this
          rw [hdn, if_neg hb0]
          exact this.mono fun _ _ ⟨h1, h2⟩ => ⟨h1, h2 ▸ Fr.refl _ _⟩
        have hne : ((whZ (b : Nat) k).2 : Int) ≠ 0 := by omega
        generalize (whZ (b : Nat) k).1 = x at *
        generalize (whZ (b : Nat) k).2 = y at *
        have hbb : ((y : Int) == 0) = false := by simpa using hne
        have hE : ∀ w, (Op.equalIn 10000 101 (.agg #[.int .i64 x, .int .i64 y]) (.agg #[.int .i64 0, .int .i64 0])).run Tryd.prog w = .ok false w := fun w => by rw [eq_row, hbb, Bool.and_false]
        have HS := Lib.hid hset
        clear hp hwz hdn hwp hset hskip hb0 hne hbb
        go_wp2_with fail
        with_reducible refine (hp0 _ hTr).mono ?_
        rintro e w3 ⟨rfl, f3⟩
        have hT3 := (hTr.fr f3 (by simp)).alloc (.cells #[.int .i64 x, .int .i64 y] 101)
        have hBz3 := (hBz.fr f3 (by simp)).alloc (.cells #[.int .i64 x, .int .i64 y] 101)
        have hBn3 := (hBn.fr f3 (by simp)).alloc (.cells #[.int .i64 x, .int .i64 y] 101)
        have hF3 := (hF.trans f3).alloc (.cells #[.int .i64 x, .int .i64 y] 101)
        have n0 := hT3.now 0
        have n1 := hT3.now 1
        have hs3 : w.heap.size + 1 < w3.heap.size := Nat.lt_of_lt_of_le hs1 f3.size
        simp [nowT, intsA] at n0 n1
        clear f3 hp0 hTr hBz hBn hF hcn hfn
        go_wp2_with fail
        with_reducible refine (hld _ hF3).mono ?_
        rintro e w4 ⟨rfl, f4⟩
        have hT4 := hT3.fr f4 (by simp)
        have hBz4 := hBz3.fr f4 (by simp)
        have hBn4 := hBn3.fr f4 (by simp)
        have hF4 := hF3.trans f4
        have hc4 := hBn4.cell k
        have hf4 := hBn4.frozen k
        rw [numsA_get _ _ _ hlt, if_neg (Nat.lt_irrefl k)] at hc4
        clear n0 n1 hT3 hBz3 hBn3 hF3 f4 hld
        go_wp2_with fail
        rw [hDR.out]
        refine ⟨⟨k + 1, by omega, by go_num, hF4.setCell (.inr (Nat.le_succ _)) _, ?_, hBz4.far (p := ⟨w.heap.size + 1, k, none⟩) (by simp) _, ?_⟩, by simp [intOf]; omega⟩
        · exact hT4.fr ((Fr.refl [w.heap.size + 1] _).setCell (.inl (by simp)) _) (by have := hT.size; simp; omega)
        · have := hBn4.set k (.int .u64 (N k : Int))
          rw [HS.out] at this
          exact this
    · obtain rfl : k = 12 := by omega
      have hva := numsA_12 N
      have c0 := hBn.cell 0
      have c1 := hBn.cell 1
      have c2 := hBn.cell 2
      have c3 := hBn.cell 3
      have c4 := hBn.cell 4
      have c5 := hBn.cell 5
      have c6 := hBn.cell 6
      have c7 := hBn.cell 7
      have c8 := hBn.cell 8
      have c9 := hBn.cell 9
      have c10 := hBn.cell 10
      have c11 := hBn.cell 11
      rw [hva] at c0 c1 c2 c3 c4 c5 c6 c7 c8 c9 c10 c11 hbl
      simp at c0 c1 c2 c3 c4 c5 c6 c7 c8 c9 c10 c11
      clear hva hpl
      go_wp2_with fail
      with_reducible refine (hbl _).mono ?_
      rintro e w3 ⟨rfl, f3⟩
      have hT3 := hTr.fr f3 (by simp)
      have hF3 := hF.trans f3
      have hBz3 := hBz.fr f3 (by simp)
      have hBn3 := hBn.fr f3 (by simp)
      have e2 := (hBn3.alloc (.cells X.cells 43)).cell 2
      rw [numsA_get _ _ _ (by omega), if_pos (by omega)] at e2
      simp only [HB.cells] at e2
      clear f3 hTr hF hBz hBn hbl
      clear c0 c1 c2 c3 c4 c5 c6 c7 c8 c9 c10 c11
      rw [HZZ.out] at hBz3
      have hBx : Blk (w3.alloc (.cells X.cells 43)) w3.heap.size 43 X.cells := Blk.new _ _ _
      have hd := HD.out
      clear hBn3
      by_cases h1 : 1 < N 2
      · have b4 : decide ((1 : Int) < (N 2 : Nat)) = true := by simp; omega
        rw [if_pos (.inl h1)] at hd
        have HD2 := Lib.hid hd
        have hBz4 := hBz3.alloc (.cells X.cells 43)
        have hF4 := hF3.alloc (.cells X.cells 43)
        (have d0 := hBz4.cell 0; have z0 := hBz4.frozen 0; have d1 := hBz4.cell 1; have z1 := hBz4.frozen 1; have d2 := hBz4.cell 2; have z2 := hBz4.frozen 2; have d3 := hBz4.cell 3; have z3 := hBz4.frozen 3; have d4 := hBz4.cell 4; have z4 := hBz4.frozen 4; have d5 := hBz4.cell 5; have z5 := hBz4.frozen 5; have d6 := hBz4.cell 6; have z6 := hBz4.frozen 6; have d7 := hBz4.cell 7; have z7 := hBz4.frozen 7; have d8 := hBz4.cell 8; have z8 := hBz4.frozen 8; have d9 := hBz4.cell 9; have z9 := hBz4.frozen 9; have d10 := hBz4.cell 10; have z10 := hBz4.frozen 10; have d11 := hBz4.cell 11; have z11 := hBz4.frozen 11; simp [HB.cells] at d0 d1 d2 d3 d4 d5 d6 d7 d8 d9 d10 d11)
        simp only [HB.cells] at d0 d1 d2 d3 d4 d5 d6 d7 d8 d9 d10 d11 z0 z1 z2 z3 z4 z5 z6 z7 z8 z9 z10 z11
        clear hd h1 hrt hBx hBz3 hT3 HBy HL HWP HWZ HDN HLT
        go_wp2_with fail
        refine gen12 (fun w9 => bodyPost _ _ _ _ _ w9) hBz4 rfl hF4 (.inr (Nat.le_refl _)) ?_
        intro w9 hn9 hf9
        have q0 := hn9.cell 0
        have q1 := hn9.cell 1
        have q2 := hn9.cell 2
        have q3 := hn9.cell 3
        have q4 := hn9.cell 4
        have q5 := hn9.cell 5
        have q6 := hn9.cell 6
        have q7 := hn9.cell 7
        have q8 := hn9.cell 8
        have q9 := hn9.cell 9
        have q10 := hn9.cell 10
        have q11 := hn9.cell 11
        simp at q0 q1 q2 q3 q4 q5 q6 q7 q8 q9 q10 q11
        refine bodyPost_ret (by simp [results, Tryd.results64, go_sem, q0, q1, q2, q3, q4, q5, q6, q7, q8, q9, q10, q11]; try rfl) rfl ⟨?_, hf9⟩
        rw [HD2.out]
        rfl
      · have b4 : decide ((1 : Int) < (N 2 : Nat)) = false := by simp; omega
        cases r
        · rw [if_pos (.inr rfl)] at hd
          have HD2 := Lib.hid hd
          clear hd h1 hBx HBy HL HWP HWZ HDN HLT
          go_wp2_with fail
          with_reducible refine (hrt _ (hT3.alloc _)).mono ?_
          rintro e w5 ⟨rfl, f5⟩
          have hBz5 := (hBz3.alloc _).fr f5 (by simp)
          have hF5 := (hF3.alloc _).trans f5
          (have d0 := hBz5.cell 0; have z0 := hBz5.frozen 0; have d1 := hBz5.cell 1; have z1 := hBz5.frozen 1; have d2 := hBz5.cell 2; have z2 := hBz5.frozen 2; have d3 := hBz5.cell 3; have z3 := hBz5.frozen 3; have d4 := hBz5.cell 4; have z4 := hBz5.frozen 4; have d5 := hBz5.cell 5; have z5 := hBz5.frozen 5; have d6 := hBz5.cell 6; have z6 := hBz5.frozen 6; have d7 := hBz5.cell 7; have z7 := hBz5.frozen 7; have d8 := hBz5.cell 8; have z8 := hBz5.frozen 8; have d9 := hBz5.cell 9; have z9 := hBz5.frozen 9; have d10 := hBz5.cell 10; have z10 := hBz5.frozen 10; have d11 := hBz5.cell 11; have z11 := hBz5.frozen 11; simp [HB.cells] at d0 d1 d2 d3 d4 d5 d6 d7 d8 d9 d10 d11)
          clear hrt f5 hBz3 hT3 hF3 e2
          go_wp2_with fail
          refine gen12 (fun w9 => bodyPost _ _ _ _ _ w9) hBz5 rfl hF5 (.inr (Nat.le_refl _)) ?_
          intro w9 hn9 hf9
          have q0 := hn9.cell 0
          have q1 := hn9.cell 1
          have q2 := hn9.cell 2
          have q3 := hn9.cell 3
          have q4 := hn9.cell 4
          have q5 := hn9.cell 5
          have q6 := hn9.cell 6
          have q7 := hn9.cell 7
          have q8 := hn9.cell 8
          have q9 := hn9.cell 9
          have q10 := hn9.cell 10
          have q11 := hn9.cell 11
          simp at q0 q1 q2 q3 q4 q5 q6 q7 q8 q9 q10 q11
          refine bodyPost_ret (by simp [results, Tryd.results64, go_sem, q0, q1, q2, q3, q4, q5, q6, q7, q8, q9, q10, q11]; try rfl) rfl ⟨?_, hf9⟩
          rw [HD2.out]
          rfl
        · rw [if_neg (by simp; omega)] at hd
          have HD2 := Lib.hid hd
          clear hd h1 HBy HL HWP HWZ HDN HLT
          go_wp2_with fail
          with_reducible refine (hrt _ (hT3.alloc _)).mono ?_
          rintro e w5 ⟨rfl, f5⟩
          have hBz5 := (hBz3.alloc _).fr f5 (by simp)
          have hF5 := (hF3.alloc _).trans f5
          have hBx5 := hBx.fr f5 (by simp)
          (have d0 := hBz5.cell 0; have z0 := hBz5.frozen 0; have d1 := hBz5.cell 1; have z1 := hBz5.frozen 1; have d2 := hBz5.cell 2; have z2 := hBz5.frozen 2; have d3 := hBz5.cell 3; have z3 := hBz5.frozen 3; have d4 := hBz5.cell 4; have z4 := hBz5.frozen 4; have d5 := hBz5.cell 5; have z5 := hBz5.frozen 5; have d6 := hBz5.cell 6; have z6 := hBz5.frozen 6; have d7 := hBz5.cell 7; have z7 := hBz5.frozen 7; have d8 := hBz5.cell 8; have z8 := hBz5.frozen 8; have d9 := hBz5.cell 9; have z9 := hBz5.frozen 9; have d10 := hBz5.cell 10; have z10 := hBz5.frozen 10; have d11 := hBz5.cell 11; have z11 := hBz5.frozen 11; simp [HB.cells] at d0 d1 d2 d3 d4 d5 d6 d7 d8 d9 d10 d11)
          (have c0 := hBx5.cell 0; have c1 := hBx5.cell 1; have c2 := hBx5.cell 2; have c3 := hBx5.cell 3; have c4 := hBx5.cell 4; have c5 := hBx5.cell 5; have c6 := hBx5.cell 6; have c7 := hBx5.cell 7; have c8 := hBx5.cell 8; have c9 := hBx5.cell 9; have c10 := hBx5.cell 10; have c11 := hBx5.cell 11; simp [HB.cells] at c0 c1 c2 c3 c4 c5 c6 c7 c8 c9 c10 c11)
          clear hrt f5 hBz3 hT3 hF3 hBx5 hBx e2
          go_wp2_with fail
          refine gen12 (fun w9 => bodyPost _ _ _ _ _ w9) hBz5 rfl hF5 (.inr (Nat.le_refl _)) ?_
          intro w9 hn9 hf9
          have q0 := hn9.cell 0
          have q1 := hn9.cell 1
          have q2 := hn9.cell 2
          have q3 := hn9.cell 3
          have q4 := hn9.cell 4
          have q5 := hn9.cell 5
          have q6 := hn9.cell 6
          have q7 := hn9.cell 7
          have q8 := hn9.cell 8
          have q9 := hn9.cell 9
          have q10 := hn9.cell 10
          have q11 := hn9.cell 11
          simp at q0 q1 q2 q3 q4 q5 q6 q7 q8 q9 q10 q11
          refine bodyPost_ret (by simp [results, Tryd.results64, go_sem, q0, q1, q2, q3, q4, q5, q6, q7, q8, q9, q10, q11]; try rfl) rfl ⟨?_, hf9⟩
          rw [HD2.out]
          rfl
end Go.Proofs.YtcagljjbiodcoaaDoor
