/- Layer 15: SlabPlays. -/
import Derived.Test.YtkapkbiccppldaaGreatDoorGN
import Derived.Test.YtkapkbiccppldaaGreatDoorGA
import Derived.Lib.MinMax
namespace Go.Proofs.YtkapkbiccppldaaGreatDoor
set_option linter.unusedVariables false
set_option linter.unusedSimpArgs false
open Go.RowKit

/-- The walk's state. -/
structure KS (w0 : World) (base : Nat) (q : MH) (p gl a s : Nat) (v : Value) (L : List Nat) (W : World) : Prop where
  k : ∃ S, KD w0 base q p gl a s S S v L W
theorem KS.fr0 {w0 W W' : World} {base : Nat} {q : MH} {p gl a s : Nat} {v : Value} {L : List Nat} (h : KS w0 base q p gl a s v L W) (hf : Fr [] W W') : KS w0 base q p gl a s v L W' := by
  obtain ⟨S, h1⟩ := h.k
  exact ⟨S, h1.fr0 hf⟩
set_option maxRecDepth 100000 in
set_option maxHeartbeats 8000000 in
theorem walk_splays (w : World) (hM : TabM w) (hT : Tabs w) (x : Int) (a : Option Addr) (c : Nat) (l : List A15) (h : ActA15 w a c l) :
    Calls Tryz.prog 6 #[.int .i64 x, .slice a l.length c] w fun e w' => e = .returned (.bool true) ∧ Fr [] w w' := by
  have HL := Lib.hid (fun W (hf : Fr [] w W) => takes15 W (hM.fr hf (by simp)) (hT.fr hf (by simp)))
  by_cases hgd : x < 7 ∨ 16 < x ∨ 200 < l.length
  · have hL := HL.out w (Fr.refl _ _)
    generalize l.length = n at *
    have hcase : ∃ x1 x2 x3 : Bool, decide (x < 7) = x1 ∧ decide (16 < x) = x2 ∧ decide ((200 : Int) < n) = x3 ∧ decide (200 < n) = x3 ∧ (x1 = true ∨ x2 = true ∨ x3 = true) := by
      refine ⟨decide (x < 7), decide (16 < x), decide (200 < n), rfl, rfl, by rw [Bool.eq_iff_iff]; simp; omega, rfl, ?_⟩
      simpa using hgd
    clear hgd h
    obtain ⟨x1, x2, x3, t1, t2, t3, t3', t4⟩ := hcase
    rcases x1 with _ | _
    · rcases x2 with _ | _
      · rcases x3 with _ | _
        · simp at t4
        · clear t4
          go_enter Tryz.func6, Tryz.ntmps6
          go_wp2_with fail
          with_reducible refine hL.mono ?_
          rintro e w1 ⟨rfl, f1⟩
          go_wp2_with fail
          go_ret
          exact ⟨rfl, f1⟩
      · clear t4 t3 t3'
        go_enter Tryz.func6, Tryz.ntmps6
        go_wp2_with fail
        with_reducible refine hL.mono ?_
        rintro e w1 ⟨rfl, f1⟩
        go_wp2_with fail
        go_ret
        exact ⟨rfl, f1⟩
    · clear t4 t3 t3' t2
      go_enter Tryz.func6, Tryz.ntmps6
      go_wp2_with fail
      with_reducible refine hL.mono ?_
      rintro e w1 ⟨rfl, f1⟩
      go_wp2_with fail
      go_ret
      exact ⟨rfl, f1⟩
  · obtain ⟨A, rfl⟩ : ∃ A : Nat, x = A := ⟨x.toNat, by omega⟩
    have hA7 : 7 ≤ A ∧ A ≤ 16 := by omega
    have b0 : decide ((A : Int) < 7) = false := by simp; omega
    have b0' : decide (A < 7) = false := by simp; omega
    have b00 : decide ((16 : Int) < A) = false := by simp; omega
    have b00' : decide (16 < A) = false := by simp; omega
    have b1 : decide ((200 : Int) < l.length) = false := by simp; omega
    have b1' : decide (200 < l.length) = false := by simp; omega
    have HA := Lib.hid h
    have HMT := Lib.hid (fun W (hf : Fr [] w W) => (show TabM W ∧ Tabs W from ⟨hM.fr hf (by simp), hT.fr hf (by simp)⟩))
    have HG := Lib.hid (show 5 ≤ w.heap.size from by have := hM.size; have := hT.size; omega)
    generalize hnn : l.length = n at *
    have HN := Lib.hid hnn
    have hn200 : n ≤ 200 := by omega
    have hcfg : Cfg A (32 * A) := ⟨by omega, by omega, by omega, by omega, by omega⟩
    have hws : IntKind.i64.wrap (32 * (A : Int)) = ((32 * A : Nat) : Int) := IntWalk.i64_in _ (by omega)
    generalize hs : 32 * A = s at *
    clear h hnn hM hT hgd hs
    go_enter Tryz.func6, Tryz.ntmps6
    go_wp2_with fail
    have hB0 := Lib.hid (Blk.new w 25 #[.int .i64 A, .int .i64 s])
    have hF0 := Lib.hid ((Fr.refl [] w).alloc (.cells #[.int .i64 A, .int .i64 s] 25))
    generalize hg0 : w.heap.size = g0 at *
    have hgs0 : w.heap.size ≤ g0 := by omega
    generalize w.alloc (.cells #[.int .i64 A, .int .i64 s] 25) = w0 at *
    have hn := Lib.hid (fun W (hf : Fr [] w W) => (show Calls Tryz.prog 15 #[.agg #[.int .i64 A, .int .i64 s]] W (NewH W A s) from hnew W (HMT.out W hf).1 (HMT.out W hf).2 A s hcfg))
    have hrb := Lib.hid (fun W => (show Calls Tryz.prog 16 #[.agg #[.int .i64 A, .int .i64 s]] W (R15New W A s) from xbegin W A s hcfg))
    have hY := (show w0.drew.cell? ⟨g0, 0, none⟩ = some (.int .i64 A) ∧ w0.drew.cell? ⟨g0, 1, none⟩ = some (.int .i64 s) from ⟨hB0.out.drew.cell 0, hB0.out.drew.cell 1⟩)
    refine wp_region_held_drew (S := fun W' => W'.cell? ⟨g0, 0, none⟩ = some (.int .i64 A) ∧ W'.cell? ⟨g0, 1, none⟩ = some (.int .i64 s)) (by kernel_rfl) (hY) (fun hHeld => ?_)
    refine wpAnyH_take (i := 0) (oi := ?ooa0) (v := ?vva0) ?hia0 (by kernel_rfl) (by kernel_rfl) (by kernel_rfl) ?hqa0 (Or.inl ⟨?hwa0, ?hha0⟩) hHeld ?rra0
    case hia0 => (simp only [List.getElem?_toArray, List.getElem?_cons_zero, List.getElem?_cons_succ]; rfl)
    case hqa0 => exact fun _ _ _ h => h
    case hwa0 => rfl
    case hha0 => (intro w hSw; (try dsimp only at hSw); go_simp; try with_reducible rfl)
    try simp only [Act.put, List.setIfInBounds_toArray, List.set_cons_zero, List.set_cons_succ]
    refine wpAnyH_take (i := 2) (oi := ?ooa1) (v := ?vva1) ?hia1 (by kernel_rfl) (by kernel_rfl) (by kernel_rfl) ?hqa1 (Or.inl ⟨?hwa1, ?hha1⟩) hHeld ?rra1
    case hia1 => (simp only [List.getElem?_toArray, List.getElem?_cons_zero, List.getElem?_cons_succ]; rfl)
    case hqa1 => exact fun _ _ _ h => h
    case hwa1 => rfl
    case hha1 => (intro w hSw; (try dsimp only at hSw); go_simp; try with_reducible rfl)
    try simp only [Act.put, List.setIfInBounds_toArray, List.set_cons_zero, List.set_cons_succ]
    refine wpAnyH_ready (rs := [1]) (by kernel_rfl) (by simp) ?_
    refine AllReadyH.cons (o := ?ooa2) ?hia2 (fun K hK => ?hca2) AllReadyH.nil
    case hia2 => (simp only [List.getElem?_toArray, List.getElem?_cons_zero, List.getElem?_cons_succ]; rfl)
    go_simp
    with_reducible refine (hn.out _ hF0.out.drew).mono ?_
    rintro e w1 ⟨q, rfl, h1, hq, f1⟩
    have H1 := Lib.hid h1
    have HQ := Lib.hid hq
    have F1 := Lib.hid (hF0.out.drew.trans f1)
    have B1 := Lib.hid (hB0.out.drew.fr f1 (by simp))
    have hY := And.intro (B1.out.cell 0) (B1.out.cell 1)
    clear h1 hq f1
    go_wp2_with fail
    refine hK.out _ _ (hY) (fun hHeld => ?_)
    clear hK K
    try simp only [Act.put, List.setIfInBounds_toArray, List.set_cons_zero, List.set_cons_succ]
    refine wpAnyH_ready (rs := [3]) (by kernel_rfl) (by simp) ?_
    refine AllReadyH.cons (o := ?ooa3) ?hia3 (fun K hK => ?hca3) AllReadyH.nil
    case hia3 => (simp only [List.getElem?_toArray, List.getElem?_cons_zero, List.getElem?_cons_succ]; rfl)
    go_simp
    with_reducible refine (hrb.out _).mono ?_
    rintro e w2 ⟨p, gl, rfl, r1, r2, r3, r4⟩
    have R1 := Lib.hid r1
    have F2 := Lib.hid r4
    have B2 := Lib.hid (B1.out.fr r4 (by simp))
    have hY := And.intro (B2.out.cell 0) (B2.out.cell 1)
    clear r1 r4
    go_wp2_with fail
    refine hK.out _ _ (hY) (fun hHeld => ?_)
    clear hK K
    try simp only [Act.put, List.setIfInBounds_toArray, List.set_cons_zero, List.set_cons_succ]
    refine wpAnyH_take (i := 4) (oi := ?ooa4) (v := ?vva4) ?hia4 (by kernel_rfl) (by kernel_rfl) (by kernel_rfl) ?hqa4 (Or.inl ⟨?hwa4, ?hha4⟩) hHeld ?rra4
    case hia4 => (simp only [List.getElem?_toArray, List.getElem?_cons_zero, List.getElem?_cons_succ]; rfl)
    case hqa4 => exact fun _ _ _ h => h
    case hwa4 => rfl
    case hha4 => (intro w hSw; (try dsimp only at hSw); go_simp; try with_reducible rfl)
    try simp only [Act.put, List.setIfInBounds_toArray, List.set_cons_zero, List.set_cons_succ]
    refine wpAnyH_take (i := 5) (oi := ?ooa5) (v := ?vva5) ?hia5 (by kernel_rfl) (by kernel_rfl) (by kernel_rfl) ?hqa5 (Or.inl ⟨?hwa5, ?hha5⟩) hHeld ?rra5
    case hia5 => (simp only [List.getElem?_toArray, List.getElem?_cons_zero, List.getElem?_cons_succ]; rfl)
    case hqa5 => exact fun _ _ _ h => h
    case hwa5 => rfl
    case hha5 => (intro w hSw; (try dsimp only at hSw); go_simp; try with_reducible rfl)
    try simp only [Act.put, List.setIfInBounds_toArray, List.set_cons_zero, List.set_cons_succ]
    refine wpAnyH_done (by kernel_rfl) ?_ _
    have HB := k_begin (w0 := w) (a := A) (s := s) H1.out hcfg F1.out (fun k hk => Nat.le_trans hF0.out.drew.size (HQ.out k hk)) (by have := HG.out; omega) R1.out r2 r3 F2.out
    clear H1 HQ F1 R1 F2 HG B1 B2 hY
    go_wp2_with fail
    with_reducible refine HB.mono ?_
    rintro e wb ⟨rfl, h3⟩
    have H3 := Lib.hid (show KS w wb.heap.size q p gl A s (.slice none 0 0) [] wb from ⟨_, KD.start h3⟩)
    have HFW := Lib.hid (fun W v L (hk : KS w wb.heap.size q p gl A s v L W) => (show Fr [] w W from by obtain ⟨S, h⟩ := hk.k; exact h.m.f))
    clear HB h3
    go_wp2_with fail
    go_loopw [8, 9] (fun v i W => ∃ (j : Nat) (L : List Nat) (u : Value), u = v ∧ j ≤ n ∧ i = .int .i64 j ∧ L.length ≤ j ∧ KS w wb.heap.size q p gl A s u L W) (fun _ i _ => n - (intOf i).toNat)
    case atStart => exact ⟨0, [], _, rfl, by omega, rfl, by simp, H3.out⟩
    case round =>
      clear H3
      obtain ⟨j, L, v, rfl, hj, rfl, hL, hK⟩ := hrel
      have HK := Lib.hid hK
      clear hK
      by_cases hlt : j < n
      · obtain ⟨B, off, rfl, hBl, hr⟩ := HA.out.row (by rw [HN.out]; omega)
        have hlt' : j < l.length := by rw [HN.out]; exact hlt
        have hrj := hr j hlt'
        have fw := HFW.out _ _ _ HK.out
        have e0 := (fw.cell (p := ⟨B, off + j * 2, none⟩) hBl (by simp)).trans hrj.c0
        have e1 := (fw.cell (p := ⟨B, off + j * 2 + 1, none⟩) hBl (by simp)).trans hrj.c1
        generalize l[j]'hlt' = y at *
        obtain ⟨yk, yn⟩ := y
        simp only at e0 e1
        have hg2 : (0 : Int) ≤ j := by omega
        have hg3 : (j : Int) < n := by omega
        have b6 : decide ((j : Int) < n) = true := by simp; omega
        have b6' : decide (j < n) = true := by simp; omega
        have wj : IntKind.i64.wrap ((j : Int) + 1) = (j : Int) + 1 := IntWalk.i64_in _ (by omega)
        clear hr hrj fw
        have f0 : Fr [] wr (wr.alloc (.cells #[.int .i64 yk, .int .i64 yn] 33)) := (Fr.refl [] wr).alloc _
        have BY := Lib.hid (Blk.new wr 33 #[.int .i64 yk, .int .i64 yn])
        obtain ⟨S, hS0⟩ := HK.out.k
        have hS := Lib.hid (hS0.fr0 f0)
        have hgq : ∀ k ∈ q.blocks, k ≠ wr.heap.size := fun k hk e => by have := hS0.m.lt k hk; omega
        have hgg : gl ≠ wr.heap.size := by
          obtain ⟨B', r1, _⟩ := hS0.r
          have := r1.lt gl r1.hg
          omega
        have hlens := hS0.lens
        have hlin := hS0.lin
        have hge := fun x => hS0.give_eq x
        clear f0 HK hS0
        by_cases hk : yk < 3
        · have b5 : decide (yk < 3) = true := by simpa using hk
          go_wp2_with fail
          generalize hgy0 : wr.heap.size = gy at *
          generalize wr.alloc (.cells #[.int .i64 yk, .int .i64 yn] 33) = w5 at *
          have ht := d_take hS.out yn
          have hx := Lib.hid (fun W (h : KD w wb.heap.size q p gl A s (takeS A (lbase A s) S yn).2.2 S v L W) => d_xtake h (fun i hi => (hlens i hi).2) yn)
          generalize takeS A (lbase A s) S yn = T at *
          obtain ⟨t1, t2, S'⟩ := T
          simp only at ht hx
          clear hlens hlin hge hk
          with_reducible refine ht.mono ?_
          rintro e w6 ⟨rfl, h6, f6⟩
          have H6 := Lib.hid h6
          have BY6 := Lib.hid (BY.out.fr f6 (fun hm => hgq gy hm rfl))
          have y1 : w6.cell? ⟨gy, 1, none⟩ = some (.int .i64 yn) := BY6.out.cell 1
          clear ht h6 f6 BY hS
          go_wp2_with fail
          with_reducible refine (hx.out _ H6.out).mono ?_
          rintro e w7 ⟨rfl, h7, f7⟩
          have H7 := Lib.hid h7
          have q1 : ((t1 : Int) != t1) = false := by simp
          have q2 : ((t2 : Int) != t2) = false := by simp
          clear hx h7 f7 H6 BY6 y1
          by_cases h0 : t2 = 0
          · subst h0
            have hsz := H7.out.bs
            have HRO := Lib.hid H7.out.o
            go_wp2_with (at_builtin; refine wpList_append2 rfl _ _ rfl rfl wb.heap.size _ L rfl t1 w7 rfl HRO.out rfl (by omega) hsz ?_; intro g1 q1 W1 hO1 hF1 hob1)
            have H8 := Lib.hid (H7.out.app hF1 hO1 (hob1.imp (fun h => h.symm) (fun h => ⟨g1, rfl, by rw [h]; exact Nat.le_succ _⟩)))
            clear hO1 hF1 hob1 HRO H7 hsz
            have hfr := d_free H8.out
            have HXF := Lib.hid (fun W h => d_xfree (W := W) (w0 := w) (base := wb.heap.size) (q := q) (p := p) (gl := gl) (a := A) (s := s) (S1 := S') (S2 := S') (v := (.slice (some ⟨g1, 0, none⟩) (L.length + 1) q1)) (L := (L ++ [t1])) h)
            have HFL := Lib.hid (fun W h => d_flt (W := W) (w0 := w) (base := wb.heap.size) (q := q) (p := p) (gl := gl) (a := A) (s := s) (S1 := S') (S2 := S') (v := (.slice (some ⟨g1, 0, none⟩) (L.length + 1) q1)) (L := (L ++ [t1])) h)
            generalize freeN A S' = fn at *
            have qf : ((fn : Int) != fn) = false := by simp
            go_wp2_with fail
            with_reducible refine hfr.mono ?_
            rintro e wf1 ⟨rfl, hf1⟩
            have HF1 := Lib.hid hf1
            clear hf1 hfr
            go_wp2_with fail
            with_reducible refine (HXF.out _ HF1.out).mono ?_
            rintro e wf2 ⟨rfl, hf2⟩
            have HF2 := Lib.hid hf2
            clear hf2 HF1
            go_wp2_with fail
            with_reducible refine (HFL.out _ HF2.out).mono ?_
            rintro e wf3 ⟨rfl, hf3⟩
            have HF3 := Lib.hid (show KS w wb.heap.size q p gl A s (.slice (some ⟨g1, 0, none⟩) (L.length + 1) q1) (L ++ [t1]) wf3 from ⟨_, hf3⟩)
            clear hf3 HF2
            go_wp2_with fail
            go_roundw
            case rel => exact ⟨j + 1, (L ++ [t1]), _, rfl, by omega, by go_num, by first | omega | (simp; omega), HF3.out⟩
            case measure => simp [intOf]; omega
          · have b7 : ((t2 : Int) == 0) = false := beq_eq_false_iff_ne.2 (by omega)
            clear h0
            have hfr := d_free H7.out
            have HXF := Lib.hid (fun W h => d_xfree (W := W) (w0 := w) (base := wb.heap.size) (q := q) (p := p) (gl := gl) (a := A) (s := s) (S1 := S') (S2 := S') (v := v) (L := L) h)
            have HFL := Lib.hid (fun W h => d_flt (W := W) (w0 := w) (base := wb.heap.size) (q := q) (p := p) (gl := gl) (a := A) (s := s) (S1 := S') (S2 := S') (v := v) (L := L) h)
            generalize freeN A S' = fn at *
            have qf : ((fn : Int) != fn) = false := by simp
            go_wp2_with fail
            with_reducible refine hfr.mono ?_
            rintro e wf1 ⟨rfl, hf1⟩
            have HF1 := Lib.hid hf1
            clear hf1 hfr
            go_wp2_with fail
            with_reducible refine (HXF.out _ HF1.out).mono ?_
            rintro e wf2 ⟨rfl, hf2⟩
            have HF2 := Lib.hid hf2
            clear hf2 HF1
            go_wp2_with fail
            with_reducible refine (HFL.out _ HF2.out).mono ?_
            rintro e wf3 ⟨rfl, hf3⟩
            have HF3 := Lib.hid (show KS w wb.heap.size q p gl A s v L wf3 from ⟨_, hf3⟩)
            clear hf3 HF2
            go_wp2_with fail
            go_roundw
            case rel => exact ⟨j + 1, L, _, rfl, by omega, by go_num, by first | omega | (simp; omega), HF3.out⟩
            case measure => simp [intOf]; omega
        · have b5 : decide (yk < 3) = false := by simpa using hk
          go_wp2_with fail
          generalize hgy0 : wr.heap.size = gy at *
          generalize wr.alloc (.cells #[.int .i64 yk, .int .i64 yn] 33) = w5 at *
          obtain ⟨ad, cap, rfl, hrow⟩ := own_row hS.out.o
          have hpl := xplace w5 yk yn ad cap L _ hrow (by omega)
          have y0 : w5.cell? ⟨gy, 0, none⟩ = some (.int .i64 yk) := BY.out.cell 0
          have y1 : w5.cell? ⟨gy, 1, none⟩ = some (.int .i64 yn) := BY.out.cell 1
          have hlen : L.length ≤ 200 := by omega
          clear hrow hk
          generalize placeZ yk yn L = z at *
          have hgv := Lib.hid (fun W (h : KD w wb.heap.size q p gl A s S S (.slice ad L.length cap) L W) => d_give h z)
          have hx := Lib.hid (fun W (h : KD w wb.heap.size q p gl A s (giveS A (lbase A s) S z).2 S (.slice ad L.length cap) L W) => (show Calls Tryz.prog 30 #[.pointer (some ⟨p, 0, none⟩), .int .i64 z] W fun e w' => e = .returned (.int .i64 (giveS A (lbase A s) S z).1) ∧ KD w wb.heap.size q p gl A s (giveS A (lbase A s) S z).2 (giveS A (lbase A s) S z).2 (.slice ad L.length cap) L w' from by
            have := d_xgive h (fun i hi => (hlens i hi).2) hlin z
            rw [hge z] at this
            exact this.mono fun e w' ⟨h1, h2, _⟩ => ⟨h1, h2⟩))
          generalize giveS A (lbase A s) S z = T at *
          obtain ⟨t1, S'⟩ := T
          simp only at hgv hx
          clear hlens hlin hge
          go_wp2_with fail
          with_reducible refine hpl.mono ?_
          rintro e w6 ⟨rfl, f6⟩
          have H6 := Lib.hid (hS.out.fr0 f6)
          clear hpl f6 hS BY y0 y1
          go_wp2_with fail
          with_reducible refine (hgv.out _ H6.out).mono ?_
          rintro e w7 ⟨rfl, h7, _⟩
          have H7 := Lib.hid h7
          have q1 : ((t1 : Int) != t1) = false := by simp
          clear hgv h7 H6
          go_wp2_with fail
          with_reducible refine (hx.out _ H7.out).mono ?_
          rintro e w8 ⟨rfl, h8⟩
          have H8 := Lib.hid h8
          clear hx h8 H7
          have hfr := d_free H8.out
          have HXF := Lib.hid (fun W h => d_xfree (W := W) (w0 := w) (base := wb.heap.size) (q := q) (p := p) (gl := gl) (a := A) (s := s) (S1 := S') (S2 := S') (v := (.slice ad L.length cap)) (L := L) h)
          have HFL := Lib.hid (fun W h => d_flt (W := W) (w0 := w) (base := wb.heap.size) (q := q) (p := p) (gl := gl) (a := A) (s := s) (S1 := S') (S2 := S') (v := (.slice ad L.length cap)) (L := L) h)
          generalize freeN A S' = fn at *
          have qf : ((fn : Int) != fn) = false := by simp
          go_wp2_with fail
          with_reducible refine hfr.mono ?_
          rintro e wf1 ⟨rfl, hf1⟩
          have HF1 := Lib.hid hf1
          clear hf1 hfr
          go_wp2_with fail
          with_reducible refine (HXF.out _ HF1.out).mono ?_
          rintro e wf2 ⟨rfl, hf2⟩
          have HF2 := Lib.hid hf2
          clear hf2 HF1
          go_wp2_with fail
          with_reducible refine (HFL.out _ HF2.out).mono ?_
          rintro e wf3 ⟨rfl, hf3⟩
          have HF3 := Lib.hid (show KS w wb.heap.size q p gl A s (.slice ad L.length cap) L wf3 from ⟨_, hf3⟩)
          clear hf3 HF2
          go_wp2_with fail
          go_roundw
          case rel => exact ⟨j + 1, L, _, rfl, by omega, by go_num, by first | omega | (simp; omega), HF3.out⟩
          case measure => simp [intOf]; omega
      · have b6 : decide ((j : Int) < n) = false := by simp; omega
        have b6' : decide (j < n) = false := by simp; omega
        have hA0 : (0 : Int) ≤ A := by omega
        clear hlt HA
        go_wp2_with fail
        go_loopw [16] (fun i W => ∃ k : Nat, k ≤ A ∧ i = .int .i64 k ∧ KS w wb.heap.size q p gl A s v L W) (fun i _ => A - (intOf i).toNat)
        case atStart => exact ⟨0, by omega, rfl, HK.out⟩
        case round =>
          clear HK
          obtain ⟨k, hkA, rfl, hK⟩ := hrel
          have HK := Lib.hid hK
          clear hK
          have k0 : (0 : Int) ≤ k := by omega
          by_cases hkl : k < A
          · have k1 : (k : Int) < A := by omega
            have k2 : decide ((k : Int) < A) = true := by simp; omega
            have k2' : decide (k < A) = true := by simp; omega
            have wk : IntKind.i64.wrap ((k : Int) + 1) = (k : Int) + 1 := IntWalk.i64_in _ (by omega)
            obtain ⟨S, hS⟩ := HK.out.k
            obtain ⟨BB, r1, r2, r3, r4⟩ := hS.r
            obtain ⟨df, cf, dl, cl, rF, rL, hc⟩ := r1.rowi k hkl
            have hlv := d_live (hS.fr0 (Fr.refl [] wr).drew) k hkl
            have hlen := (hS.lens k hkl).2.2
            have CC := Lib.hid (fun W (hf : Fr q.blocks wr W) => (show W.cell? ⟨p, 2, none⟩ = some (.slice (some ⟨gl, 0, none⟩) A A) ∧ W.cell? ⟨gl, k * 3 + 2, none⟩ = some (.slice dl (S.lv k).length cl) from by
              obtain ⟨_, _, c2, c3, _⟩ := hc wr (Fr.refl _ _)
              exact ⟨(hf.cell (p := ⟨p, 2, none⟩) (r1.lt p r1.hp) (fun hm => r2 p hm r1.hp)).trans c3, (hf.cell (p := ⟨gl, k * 3 + 2, none⟩) (r1.lt gl r1.hg) (fun hm => r2 gl hm r1.hg)).trans c2⟩))
            have HRL := Lib.hid (fun W (hf : Fr q.blocks wr W) => (show RowV W 0 dl cl (S.lv k) from fun h0 => by
              obtain ⟨g, e, hg, hr⟩ := rL h0
              exact ⟨g, e, Nat.zero_le _, hr.fr hf (fun hm => r2 g hm hg)⟩))
            have hY := CC.out _ (Fr.refl q.blocks wr).drew
            clear HK rF rL hc r1 r2 r3 r4 hS
            generalize S.lv k = LV at *
            generalize hlv' : LV.length = lvn at *
            go_wp2_with fail
            refine wp_region_held_drew (S := fun W => W.cell? ⟨p, 2, none⟩ = some (.slice (some ⟨gl, 0, none⟩) A A) ∧ W.cell? ⟨gl, k * 3 + 2, none⟩ = some (.slice dl lvn cl)) (by kernel_rfl) (hY) (fun hHeld => ?_)
            refine wpAnyH_take (i := 0) (oi := ?oob0) (v := ?vvb0) ?hib0 (by kernel_rfl) (by kernel_rfl) (by kernel_rfl) ?hqb0 (Or.inl ⟨?hwb0, ?hhb0⟩) hHeld ?rrb0
            case hib0 => (simp only [List.getElem?_toArray, List.getElem?_cons_zero, List.getElem?_cons_succ]; rfl)
            case hqb0 => exact fun _ _ _ h => h
            case hwb0 => rfl
            case hhb0 => (intro w hSw; (try dsimp only at hSw); go_simp; try with_reducible rfl)
            try simp only [Act.put, List.setIfInBounds_toArray, List.set_cons_zero, List.set_cons_succ]
            refine wpAnyH_take (i := 1) (oi := ?oob1) (v := ?vvb1) ?hib1 (by kernel_rfl) (by kernel_rfl) (by kernel_rfl) ?hqb1 (Or.inl ⟨?hwb1, ?hhb1⟩) hHeld ?rrb1
            case hib1 => (simp only [List.getElem?_toArray, List.getElem?_cons_zero, List.getElem?_cons_succ]; rfl)
            case hqb1 => exact fun _ _ _ h => h
            case hwb1 => rfl
            case hhb1 => (intro w hSw; (try dsimp only at hSw); go_simp; try with_reducible rfl)
            try simp only [Act.put, List.setIfInBounds_toArray, List.set_cons_zero, List.set_cons_succ]
            refine wpAnyH_take (i := 3) (oi := ?oob2) (v := ?vvb2) ?hib2 (by kernel_rfl) (by kernel_rfl) (by kernel_rfl) ?hqb2 (Or.inl ⟨?hwb2, ?hhb2⟩) hHeld ?rrb2
            case hib2 => (simp only [List.getElem?_toArray, List.getElem?_cons_zero, List.getElem?_cons_succ]; rfl)
            case hqb2 => exact fun _ _ _ h => h
            case hwb2 => rfl
            case hhb2 => (intro w hSw; (try dsimp only at hSw); go_simp; try with_reducible rfl)
            try simp only [Act.put, List.setIfInBounds_toArray, List.set_cons_zero, List.set_cons_succ]
            refine wpAnyH_take (i := 4) (oi := ?oob3) (v := ?vvb3) ?hib3 (by kernel_rfl) (by kernel_rfl) (by kernel_rfl) ?hqb3 (Or.inl ⟨?hwb3, ?hhb3⟩) hHeld ?rrb3
            case hib3 => (simp only [List.getElem?_toArray, List.getElem?_cons_zero, List.getElem?_cons_succ]; rfl)
            case hqb3 => exact fun _ _ _ h => h
            case hwb3 => rfl
            case hhb3 => (intro w hSw; (try dsimp only at hSw); go_simp; try with_reducible rfl)
            try simp only [Act.put, List.setIfInBounds_toArray, List.set_cons_zero, List.set_cons_succ]
            refine wpAnyH_take (i := 5) (oi := ?oob4) (v := ?vvb4) ?hib4 (by kernel_rfl) (by kernel_rfl) (by kernel_rfl) ?hqb4 (Or.inl ⟨?hwb4, ?hhb4⟩) hHeld ?rrb4
            case hib4 => (simp only [List.getElem?_toArray, List.getElem?_cons_zero, List.getElem?_cons_succ]; rfl)
            case hqb4 => exact fun _ _ _ h => h
            case hwb4 => rfl
            case hhb4 => (intro w hSw; (try dsimp only at hSw); go_simp; try with_reducible rfl)
            try simp only [Act.put, List.setIfInBounds_toArray, List.set_cons_zero, List.set_cons_succ]
            refine wpAnyH_take (i := 6) (oi := ?oob5) (v := ?vvb5) ?hib5 (by kernel_rfl) (by kernel_rfl) (by kernel_rfl) ?hqb5 (Or.inl ⟨?hwb5, ?hhb5⟩) hHeld ?rrb5
            case hib5 => (simp only [List.getElem?_toArray, List.getElem?_cons_zero, List.getElem?_cons_succ]; rfl)
            case hqb5 => exact fun _ _ _ h => h
            case hwb5 => rfl
            case hhb5 => (intro w hSw; (try dsimp only at hSw); go_simp; try with_reducible rfl)
            try simp only [Act.put, List.setIfInBounds_toArray, List.set_cons_zero, List.set_cons_succ]
            refine wpAnyH_take (i := 7) (oi := ?oob6) (v := ?vvb6) ?hib6 (by kernel_rfl) (by kernel_rfl) (by kernel_rfl) ?hqb6 (Or.inl ⟨?hwb6, ?hhb6⟩) hHeld ?rrb6
            case hib6 => (simp only [List.getElem?_toArray, List.getElem?_cons_zero, List.getElem?_cons_succ]; rfl)
            case hqb6 => exact fun _ _ _ h => h
            case hwb6 => rfl
            case hhb6 => (intro w hSw; (try dsimp only at hSw); go_simp; try with_reducible rfl)
            try simp only [Act.put, List.setIfInBounds_toArray, List.set_cons_zero, List.set_cons_succ]
            refine wpAnyH_take (i := 8) (oi := ?oob7) (v := ?vvb7) ?hib7 (by kernel_rfl) (by kernel_rfl) (by kernel_rfl) ?hqb7 (Or.inl ⟨?hwb7, ?hhb7⟩) hHeld ?rrb7
            case hib7 => (simp only [List.getElem?_toArray, List.getElem?_cons_zero, List.getElem?_cons_succ]; rfl)
            case hqb7 => exact fun _ _ _ h => h
            case hwb7 => rfl
            case hhb7 => (intro w hSw; (try dsimp only at hSw); go_simp; try with_reducible rfl)
            try simp only [Act.put, List.setIfInBounds_toArray, List.set_cons_zero, List.set_cons_succ]
            refine wpAnyH_take (i := 9) (oi := ?oob8) (v := ?vvb8) ?hib8 (by kernel_rfl) (by kernel_rfl) (by kernel_rfl) ?hqb8 (Or.inl ⟨?hwb8, ?hhb8⟩) hHeld ?rrb8
            case hib8 => (simp only [List.getElem?_toArray, List.getElem?_cons_zero, List.getElem?_cons_succ]; rfl)
            case hqb8 => exact fun _ _ _ h => h
            case hwb8 => rfl
            case hhb8 => (intro w hSw; (try dsimp only at hSw); go_simp; try with_reducible rfl)
            try simp only [Act.put, List.setIfInBounds_toArray, List.set_cons_zero, List.set_cons_succ]
            refine wpAnyH_take (i := 10) (oi := ?oob9) (v := ?vvb9) ?hib9 (by kernel_rfl) (by kernel_rfl) (by kernel_rfl) ?hqb9 (Or.inl ⟨?hwb9, ?hhb9⟩) hHeld ?rrb9
            case hib9 => (simp only [List.getElem?_toArray, List.getElem?_cons_zero, List.getElem?_cons_succ]; rfl)
            case hqb9 => exact fun _ _ _ h => h
            case hwb9 => rfl
            case hhb9 => (intro w hSw; (try dsimp only at hSw); go_simp; try with_reducible rfl)
            try simp only [Act.put, List.setIfInBounds_toArray, List.set_cons_zero, List.set_cons_succ]
            refine wpAnyH_ready (rs := [2]) (by kernel_rfl) (by simp) ?_
            refine AllReadyH.cons (o := ?oob10) ?hib10 (fun K hK => ?hcb10) AllReadyH.nil
            case hib10 => (simp only [List.getElem?_toArray, List.getElem?_cons_zero, List.getElem?_cons_succ]; rfl)
            go_simp
            with_reducible refine hlv.mono ?_
            rintro e W5 ⟨ad, cap, rfl, hrv, hk5, f5⟩
            have H5 := Lib.hid hk5
            have F5 := Lib.hid (((Fr.refl q.blocks wr).drew).trans f5)
            have HRV := Lib.hid hrv
            have hY := CC.out _ F5.out
            clear hrv hk5 f5
            go_wp2_with fail
            refine hK.out _ _ (hY) (fun hHeld => ?_)
            clear hK K
            try simp only [Act.put, List.setIfInBounds_toArray, List.set_cons_zero, List.set_cons_succ]
            refine wpAnyH_ready (rs := [11]) (by kernel_rfl) (by simp) ?_
            refine AllReadyH.cons (o := ?oob11) ?hib11 (fun K hK => ?hcb11) AllReadyH.nil
            case hib11 => (simp only [List.getElem?_toArray, List.getElem?_cons_zero, List.getElem?_cons_succ]; rfl)
            go_simp
            with_reducible refine ((show Calls Tryz.prog 32 #[.slice ad lvn cap, .slice dl lvn cl] W5 fun e w' => e = .returned (.bool true) ∧ Fr [] W5 w' from by have := r14same HRV.out (HRL.out _ F5.out) (by omega); rwa [hlv'] at this)).mono ?_
            rintro e W6 ⟨rfl, f6⟩
            have H6 := Lib.hid (show KS w wb.heap.size q p gl A s v L W6 from ⟨_, H5.out.fr0 f6⟩)
            have hY := CC.out _ (F5.out.trans f6.nil)
            clear f6
            go_wp2_with fail
            refine hK.out _ _ (hY) (fun hHeld => ?_)
            clear hK K
            try simp only [Act.put, List.setIfInBounds_toArray, List.set_cons_zero, List.set_cons_succ]
            refine wpAnyH_take (i := 12) (oi := ?oob12) (v := ?vvb12) ?hib12 (by kernel_rfl) (by kernel_rfl) (by kernel_rfl) ?hqb12 (Or.inl ⟨?hwb12, ?hhb12⟩) hHeld ?rrb12
            case hib12 => (simp only [List.getElem?_toArray, List.getElem?_cons_zero, List.getElem?_cons_succ]; rfl)
            case hqb12 => exact fun _ _ _ h => h
            case hwb12 => rfl
            case hhb12 => (intro w hSw; (try dsimp only at hSw); go_simp; try with_reducible rfl)
            try simp only [Act.put, List.setIfInBounds_toArray, List.set_cons_zero, List.set_cons_succ]
            refine wpAnyH_done (by kernel_rfl) ?_ _
            clear hY CC HRL hlv H5 HRV F5
            go_wp2_with fail
            go_roundw
            case rel => exact ⟨k + 1, by omega, by go_num, H6.out⟩
            case measure => simp [intOf]; omega
          · have k2 : decide ((k : Int) < A) = false := by simp; omega
            have k2' : decide (k < A) = false := by simp; omega
            clear hkl hkA
            go_wp2_with fail
            go_loopw [17] (fun i W => ∃ m : Nat, m ≤ 11 ∧ i = .int .i64 m ∧ KS w wb.heap.size q p gl A s v L W) (fun i _ => 11 - (intOf i).toNat)
            case atStart => exact ⟨0, by omega, rfl, HK.out⟩
            case round =>
              clear HK
              obtain ⟨m, hm, rfl, hK⟩ := hrel
              have HK := Lib.hid hK
              clear hK
              obtain ⟨S, hS⟩ := HK.out.k
              by_cases hml : m ≤ 10
              · have m2 : decide ((m : Int) ≤ 10) = true := by simp; omega
                have m2' : decide (m ≤ 10) = true := by simp; omega
                have wm : IntKind.i64.wrap ((m : Int) + 1) = (m : Int) + 1 := IntWalk.i64_in _ (by omega)
                have hrm := d_room hS m
                have hxr := Lib.hid (fun W (h : KD w wb.heap.size q p gl A s S S v L W) => d_xroom h (fun i hi => (h.lens i hi).2.1) (m : Int))
                generalize roomN A S (m : Int) = rn at *
                have q1 : ((rn : Int) != rn) = false := by simp
                clear HK hS
                go_wp2_with fail
                with_reducible refine hrm.mono ?_
                rintro e w5 ⟨rfl, h5⟩
                have H5 := Lib.hid h5
                clear h5 hrm
                go_wp2_with fail
                with_reducible refine (hxr.out _ H5.out).mono ?_
                rintro e w6 ⟨rfl, h6⟩
                have H6 := Lib.hid (show KS w wb.heap.size q p gl A s v L w6 from ⟨_, h6⟩)
                clear h6 hxr H5
                go_wp2_with fail
                go_roundw
                case rel => exact ⟨m + 1, by omega, by go_num, H6.out⟩
                case measure => simp [intOf]; omega
              · have m2 : decide ((m : Int) ≤ 10) = false := by simp; omega
                have m2' : decide (m ≤ 10) = false := by simp; omega
                have hrn := d_runs hS
                have hxr := Lib.hid (fun W (h : KD w wb.heap.size q p gl A s S S v L W) => d_xruns h)
                have hln : (accR A s S A).length ≤ 1048576 := by
                  have h9 := hS.lens
                  obtain ⟨l1, l2⟩ := all_lenR (lbase A s) S A (fun i hi => (h9 i hi).1)
                  have f1 := foldR_len (allR (lbase A s) S A) (rrun5 A s)
                  obtain ⟨r1, r2⟩ := rrun5_lenR hcfg
                  unfold accR
                  omega
                have F0 := Lib.hid hS.m.f
                have HS := Lib.hid hS
                have HK2 := Lib.hid (fun W (hf : Fr [] wr W) => hS.fr0 hf)
                generalize accR A s S A = RR at *
                clear HK hS hml
                go_wp2_with fail
                with_reducible refine hrn.mono ?_
                rintro e w5 ⟨v5, rfl, o5, f5⟩
                have O5 := Lib.hid o5
                have F5 := Lib.hid f5
                clear o5 f5 hrn
                go_wp2_with fail
                with_reducible refine (hxr.out _ (HK2.out _ F5.out)).mono ?_
                rintro e w6 ⟨v6, rfl, o6, f6⟩
                have hsm := r9same (own_keep O5.out f6) o6 hln
                have F6 := Lib.hid (F0.out.trans (F5.out.trans f6))
                clear o6 f6 O5 F5 hxr
                go_wp2_with fail
                with_reducible refine hsm.mono ?_
                rintro e w7 ⟨rfl, f7⟩
                have F7 := Lib.hid (F6.out.trans f7)
                have hL := HL.out _ F7.out
                clear f7 hsm
                go_wp2_with fail
                with_reducible refine hL.mono ?_
                rintro e w8 ⟨rfl, f8⟩
                go_wp2_with fail
                go_ret
                exact ⟨rfl, F7.out.trans f8⟩
theorem walk_splaysW (w : World) (h : TabM w ∧ Tabs w) (x : Int) (a : Option Addr) (c : Nat) (l : List A15) (hl : ActA15 w a c l) : Calls Tryz.prog 6 #[.int .i64 x, .slice a l.length c] w fun e w' => e = .returned (.bool true) ∧ Fr [] w w' := walk_splays w h.1 h.2 x a c l hl
end Go.Proofs.YtkapkbiccppldaaGreatDoor
