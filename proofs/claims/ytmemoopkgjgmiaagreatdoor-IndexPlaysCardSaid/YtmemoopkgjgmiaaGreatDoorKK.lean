/- Several texts in one. -/
import Derived.Test.YtmemoopkgjgmiaaGreatDoorKJ
import Derived.BigQuiet
import Derived.Test.YtmemoopkgjgmiaaGreatDoorKT
import Derived.Test.YtmemoopkgjgmiaaGreatDoorKL
/- The document's index of layer 20: look, Entry, Node. -/
namespace Go.Proofs.YtmemoopkgjgmiaaGreatDoor
-- @short
set_option linter.unusedVariables false
set_option linter.unusedSimpArgs false
open Go.RowKit

/-- Is a block like another one? -/
def RB.like (a b : RB) : Bool := a.nd == b.nd && a.nm == b.nm && a.ty == b.ty && a.lab == b.lab && a.hs == b.hs
section
variable {w W : World} {px base gt ct cap : Nat} {T T' H : Nat → Nat} {L : List RB} {ad : Option Addr} {S : List Nat}
/-- What a look answers. -/
def lkV (T : Nat → Nat) : Option Nat → Value
  | some i => .tuple #[.int .i64 (T i), .bool true]
  | none => .tuple #[.int .i64 0, .bool false]
set_option maxRecDepth 100000 in
set_option maxHeartbeats 40000000 in
theorem x20_look (h : IsX w px base T H L gt ct ad cap) (r : RZ 224 T H) (hT : ∀ s, T s < 4294967296) (b : RB) (hlb : ∀ x ∈ b.lab, x < 256) (hbh : b.hs < 4294967296) (hLl : ∀ c ∈ L, ∀ x ∈ c.lab, x < 256) (P : Nat → Bool)
    (hP : ∀ s, s < 224 → T s ≠ 0 → ∃ q, At20 H L (T s) q ∧ ∀ hq : q < L.length, P (T s) = L[q].like b) :
    Calls Tryz.prog 207 #[.pointer (some ⟨px, 0, none⟩), .agg #[.int .i64 b.at_, .bool b.nd, .int .u32 b.nm, .int .u16 b.ty, .string (strOf b.lab), .int .u32 b.hs]] w fun e w' => e = .returned (lkV T (fndT T H 224 (b.hs % 224) P)) ∧ Fr [] w w' := by
  obtain ⟨ba, bd, bm, bt, bl, bh⟩ := b
  simp only at hlb hbh hP ⊢
  have F0 := Lib.hid ((Fr.refl [] w).alloc (.cells #[.int .i64 ba, .bool bd, .int .u32 bm, .int .u16 bt, .string (strOf bl), .int .u32 bh] 33))
  have B0 := Lib.hid (Blk.new w 33 #[.int .i64 ba, .bool bd, .int .u32 bm, .int .u16 bt, .string (strOf bl), .int .u32 bh])
  have hhm := x_home (h.fr0 F0.out) ba bd bm bt (strOf bl) bh hbh
  have hml : bh % 224 < 224 := Nat.mod_lt _ (by decide)
  have HX := Lib.hid h
  have HM := Lib.hid r.r.hm
  have HTB := Lib.hid hT
  have HDS := Lib.hid (fun V (hm s : Nat) (h1 : hm < 224) (h2 : s < 224) => (show Calls Tryz.prog 296 #[.int .i64 224, .int .i64 hm, .int .i64 s] V fun e w' => e = .returned (.int .i64 (dst 224 hm s)) ∧ w' = V from x_dist V 224 hm s h1 h2 (by decide)))
  have HEN := Lib.hid (show ∀ j, endB T H 224 (bh % 224 + j) j = if T ((bh % 224 + j) % 224) = 0 then true else decide (dst 224 (H (T ((bh % 224 + j) % 224))) ((bh % 224 + j) % 224) < j) from fun j => by
    unfold endB
    rw [farT_dst])
  have HFD := Lib.hid (fun V (hV : Fr [] w V) s (hs : s < 224) (h0 : T s ≠ 0) => (show ∃ q g, ∃ hq : q < L.length, P (T s) = (L[q].nd == bd && L[q].nm == bm && L[q].ty == bt && L[q].lab == bl && L[q].hs == bh) ∧ ad = some ⟨g, 0, none⟩ ∧ L.length ≤ cap ∧ (∀ x ∈ L[q].lab, x < 256) ∧
      (Calls Tryz.prog 102 #[.pointer (some ⟨px, 0, none⟩), .int .i64 (T s)] V fun e w' => e = .returned (.int .i64 q) ∧ Fr [] V w') ∧
      ∀ V', Fr [] w V' → (V'.cell? ⟨px, 0, none⟩ = some (.slice (some ⟨gt, 0, none⟩) 224 ct) ∧ V'.cell? ⟨px, 1, none⟩ = some (.slice (some ⟨g, 0, none⟩) L.length cap) ∧
        V'.cell? ⟨g, q * 6, none⟩ = some (.int .i64 L[q].at_) ∧ V'.cell? ⟨g, q * 6 + 1, none⟩ = some (.bool L[q].nd) ∧ V'.cell? ⟨g, q * 6 + 2, none⟩ = some (.int .u32 L[q].nm) ∧ V'.cell? ⟨g, q * 6 + 3, none⟩ = some (.int .u16 L[q].ty) ∧ V'.cell? ⟨g, q * 6 + 4, none⟩ = some (.string (strOf L[q].lab)) ∧ V'.cell? ⟨g, q * 6 + 5, none⟩ = some (.int .u32 L[q].hs)) from by
    obtain ⟨q, a, hp⟩ := hP s hs h0
    obtain ⟨g, e, hcap, hcc⟩ := h.cells a.lt
    refine ⟨q, g, a.lt, hp a.lt, e, hcap, hLl _ (List.getElem_mem a.lt), ?_, hcc⟩
    have := x_fnd (h.fr0 hV) (T s) q (by have := a.lt; omega) a.no (fun _ => a.at_)
    rwa [if_pos a.lt] at this))
  obtain ⟨R, hR⟩ : ∃ R, fndT T H 224 (bh % 224) P = R := ⟨_, rfl⟩
  rw [hR]
  have HR := Lib.hid (show fndS T H 224 (bh % 224) P (224 - 0) 0 = R from hR)
  have HUN := Lib.hid (show ∀ k, k < 224 → fndS T H 224 (bh % 224) P (224 - k) k = if endB T H 224 (bh % 224 + k) k = true then none else if P (T ((bh % 224 + k) % 224)) = true then some ((bh % 224 + k) % 224) else fndS T H 224 (bh % 224) P (224 - (k + 1)) (k + 1) from fun k hk => by
    rw [show 224 - k = (224 - (k + 1)) + 1 by omega, fndS])
  have HZ := Lib.hid (show fndS T H 224 (bh % 224) P (224 - 224) 224 = none from by rw [Nat.sub_self]; rfl)
  generalize fndS T H 224 (bh % 224) P = FS at *
  have hle := h.len
  have HBL := Lib.hid hlb
  generalize hmq : bh % 224 = hm at *
  clear h r hR hP hLl hlb hmq hT
  go_enter Tryz.func207, Tryz.ntmps207
  go_wp2_with fail
  with_reducible refine hhm.mono ?_
  rintro e w1 ⟨rfl, f1⟩
  have F1 := Lib.hid (F0.out.trans f1)
  have B1 := Lib.hid (B0.out.fr f1 (by simp))
  clear f1 hhm B0 F0
  go_wp2_with fail
  go_loopw [7] (fun v W => ∃ j : Nat, j ≤ 224 ∧ v = .int .i64 j ∧ Fr [] w W ∧ Blk W w.heap.size 33 #[.int .i64 ba, .bool bd, .int .u32 bm, .int .u16 bt, .string (strOf bl), .int .u32 bh] ∧ Hid (FS (224 - j) j = R)) (fun v _ => 224 - (intOf v).toNat)
  case atStart => exact ⟨0, by omega, rfl, F1.out, B1.out, HR⟩
  case round =>
    clear HR F1 B1
    obtain ⟨j, hj, rfl, hF, hB, HRj⟩ := hrel
    have F1 := Lib.hid hF
    have B1 := Lib.hid hB
    have n1 : (0 : Int) ≤ j := by omega
    have wj : IntKind.i64.wrap ((j : Int) + 1) = (j : Int) + 1 := IntWalk.i64_in _ (by omega)
    have c0 := (HX.out.fr0 hF).c0
    have hct := (HX.out.fr0 hF).t.le
    by_cases hlt : j < 224
    · have b1 : decide ((j : Int) < 224) = true := decide_eq_true (by omega)
      have b1' : decide (j < 224) = true := decide_eq_true (by omega)
      have w1 : IntKind.i64.wrap ((hm : Int) + j) = (hm : Int) + j := IntWalk.i64_in _ (by omega)
      have hpl : (hm + j) % 224 < 224 := Nat.mod_lt _ (by decide)
      have w3 : ((hm : Int) + j).tmod 224 = ((hm + j) % 224 : Nat) := by
        rw [show (hm : Int) + j = ((hm + j : Nat) : Int) by omega, show (224 : Int) = ((224 : Nat) : Int) from rfl, ← Int.ofNat_tmod]
      have w3' : ((hm : Int) + j) % 224 = ((hm + j) % 224 : Nat) := by omega
      have w3'' : IntKind.i64.wrap (((hm + j) % 224 : Nat) : Int) = ((hm + j) % 224 : Nat) := IntWalk.i64_in _ (by omega)
      have HCC := Lib.hid (show ∀ V, Fr [] w V → V.cell? ⟨gt, (hm + j) % 224 * 2, none⟩ = some (.int .u32 (T ((hm + j) % 224))) ∧ V.cell? ⟨gt, (hm + j) % 224 * 2 + 1, none⟩ = some (.int .i64 (cT T H ((hm + j) % 224)).2) from fun V hV => by
        have k0 := (HX.out.fr0 hV).t.id hpl
        have k1 := (HX.out.fr0 hV).t.home hpl
        rw [cT_id] at k0
        exact ⟨k0, k1⟩)
      have n3 : (0 : Int) ≤ ((hm + j) % 224 : Nat) := by omega
      have n4 : (((hm + j) % 224 : Nat) : Int) < 224 := by omega
      have hen := HEN.out j
      have hun := HUN.out j hlt
      rw [HRj.out, hen] at hun
      have HFD2 := Lib.hid (fun V (hV : Fr [] w V) => HFD.out V hV _ hpl)
      have hcm : T ((hm + j) % 224) ≠ 0 → (cT T H ((hm + j) % 224)).2 = H (T ((hm + j) % 224)) := fun h => by rw [cT_is h]
      have hmm := HM.out (T ((hm + j) % 224))
      have htb := HTB.out ((hm + j) % 224)
      have HUN2 := Lib.hid hun
      have HTP := Lib.hid (show ∀ i, i = (hm + j) % 224 → T i = T ((hm + j) % 224) from fun i e => by rw [e])
      clear hun hen HEN HUN HFD hF hB
      generalize ht : T ((hm + j) % 224) = t at *
      generalize hhc : (cT T H ((hm + j) % 224)).2 = hc at *
      generalize hp : (hm + j) % 224 = p at *
      have HT := Lib.hid ht
      clear ht hhc hp
      have DC := Lib.hid (fun V (hV : Fr [] wr V) => (show V.cell? ⟨px, 0, none⟩ = some (.slice (some ⟨gt, 0, none⟩) 224 ct) ∧ V.cell? ⟨gt, p * 2, none⟩ = some (.int .u32 t) ∧ V.cell? ⟨gt, p * 2 + 1, none⟩ = some (.int .i64 hc) from by
        have hx := HX.out.fr0 (F1.out.trans hV)
        exact ⟨hx.c0, HCC.out V (F1.out.trans hV)⟩))
      go_wp2_with fail
      have hY := DC.out _ (Fr.refl [] wr).drew
      have hY2 := DC.out _ ((Fr.refl [] wr).drew.alloc (.cells #[.int .u32 0, .int .i64 0] 172))
      have hY3 := DC.out _ ((Fr.refl [] wr).drew.alloc (.cells #[.int .u32 t, .int .i64 hc] 172))
      refine wp_region_held_drew (S := fun W => W.cell? ⟨px, 0, none⟩ = some (.slice (some ⟨gt, 0, none⟩) 224 ct) ∧ W.cell? ⟨gt, p * 2, none⟩ = some (.int .u32 t) ∧ W.cell? ⟨gt, p * 2 + 1, none⟩ = some (.int .i64 hc)) (by kernel_rfl) (hY) (fun yH => ?_)
      refine tkY 0 yH (h := ?_)
      refine tkY 1 yH (h := ?_)
      refine tkY 2 yH (h := ?_)
      refine tkY 3 yH (h := ?_)
      refine tkY 4 yH (h := ?_)
      refine tkY 5 yH (h := ?_)
      refine tkY 6 yH (h := ?_)
      refine tkY 7 yH (h := ?_)
      refine tkY 8 yH (h := ?_)
      refine tkY 9 yH (h := ?_)
      refine tkY 10 yH (h := ?_)
      refine tkY 11 yH (h := ?_)
      refine tkY 12 yH (h := ?_)
      refine tkY 13 yH (h := ?_)
      refine tkY 14 yH (h := ?_)
      refine wpAnyH_ready (rs := [15]) (by kernel_rfl) (by simp) ?_
      refine AllReadyH.cons (o := ?ooa15) ?hia15 (fun K hK => ?hca15) AllReadyH.nil
      case hia15 => (simp only [List.getElem?_toArray, List.getElem?_cons_zero, List.getElem?_cons_succ]; rfl)
      go_simp
      refine hK.out _ _ (hY2) (fun yH => ?_)
      clear hK K
      try simp only [Act.put, List.setIfInBounds_toArray, List.set_cons_zero, List.set_cons_succ]
      refine wpAnyH_ready (rs := [16]) (by kernel_rfl) (by simp) ?_
      refine AllReadyH.cons (o := ?ooa16) ?hia16 (fun K hK => ?hca16) AllReadyH.nil
      case hia16 => (simp only [List.getElem?_toArray, List.getElem?_cons_zero, List.getElem?_cons_succ]; rfl)
      go_simp
      refine hK.out _ _ (hY3) (fun yH => ?_)
      clear hK K
      try simp only [Act.put, List.setIfInBounds_toArray, List.set_cons_zero, List.set_cons_succ]
      refine wpAnyH_done (by kernel_rfl) ?_ _
      try simp only [Act.put, List.getElem_toArray, List.getElem_cons_zero, List.getElem_cons_succ, List.setIfInBounds_toArray, List.set_cons_zero, List.set_cons_succ]
      have hfa : Fr [] wr ((wr.alloc (.cells #[.int .u32 t, .int .i64 hc] 172)).drew) := ((Fr.refl [] wr).alloc _).drew
      have FA := Lib.hid (F1.out.trans hfa)
      have BA := Lib.hid (B1.out.fr hfa (by simp))
      have d0 : ((wr.alloc (.cells #[.int .u32 t, .int .i64 hc] 172)).drew).cell? ⟨wr.heap.size, 0, none⟩ = some (.int .u32 t) := (Blk.new wr 172 #[.int .u32 t, .int .i64 hc]).drew.cell 0
      have d1 : ((wr.alloc (.cells #[.int .u32 t, .int .i64 hc] 172)).drew).cell? ⟨wr.heap.size, 1, none⟩ = some (.int .i64 hc) := (Blk.new wr 172 #[.int .u32 t, .int .i64 hc]).drew.cell 1
      have BC := Lib.hid (show Blk ((wr.alloc (.cells #[.int .u32 t, .int .i64 hc] 172)).drew) wr.heap.size 172 #[.int .u32 t, .int .i64 hc] from (Blk.new wr 172 #[.int .u32 t, .int .i64 hc]).drew)
      have c0 := (DC.out _ hfa).1
      clear hY hY2 hY3 hfa DC F1 B1
      generalize hga : wr.heap.size = ga at *
      generalize (wr.alloc (.cells #[.int .u32 t, .int .i64 hc] 172)).drew = wa at *
      by_cases h0 : t = 0
      · subst h0
        have hun := HUN2.out
        rw [if_pos rfl, if_pos rfl] at hun
        subst hun
        have b2 : (((0 : Nat) : Int) == 0) = true := rfl
        clear HFD2 HUN2 HRj HZ hcm
        go_wp2_with fail
        go_quiet (fail)
        go_wp2_with fail
        go_ret2
        exact ⟨rfl, FA.out.drewN _⟩
      · have b2 : ((t : Int) == 0) = false := by rw [beq_eq_false_iff_ne]; omega
        have b2' : (t == 0) = false := by rw [beq_eq_false_iff_ne]; exact h0
        have hun := HUN2.out
        rw [if_neg h0] at hun
        have hce := hcm h0
        subst hce
        have hds := fun V => HDS.out V (H t) p hmm hpl
        by_cases hend : dst 224 (H t) p < j
        · rw [decide_eq_true hend, if_pos rfl] at hun
          subst hun
          have b3 : decide (((dst 224 (H t) p : Nat) : Int) < j) = true := decide_eq_true (by omega)
          have b3' := decide_eq_true hend
          clear HFD2 HUN2 HRj HZ hend hcm
          generalize dst 224 (H t) p = dd at *
          generalize H t = hc at *
          go_wp2_with fail
          go_quiet ((go_at_call 296; exact Calls.quiet_of_same (hds _)))
          go_wp2_with fail
          go_ret2
          exact ⟨rfl, FA.out.drewN _⟩
        · rw [decide_eq_false hend, if_neg (by simp)] at hun
          have b3 : decide (((dst 224 (H t) p : Nat) : Int) < j) = false := decide_eq_false (by omega)
          have b3' := decide_eq_false hend
          have wt : IntKind.i64.wrap (t : Int) = t := IntWalk.i64_in _ (by omega)
          clear HUN2 HRj hend hcm
          generalize dst 224 (H t) p = dd at *
          generalize H t = hc at *
          go_wp2_with fail
          go_quiet ((go_at_call 296; exact Calls.quiet_of_same (hds _)))
          obtain ⟨q, g, hq, hPq, rfl, hcap, hlq, hfd, hcc⟩ := HFD2.out _ (FA.out.drewN nq) h0
          have d0' : (wa.drewN nq).cell? ⟨ga, 0, none⟩ = some (.int .u32 t) := d0
          have n5 : (0 : Int) ≤ q := by omega
          have n6 : (q : Int) < L.length := by omega
          have b4 : decide ((0 : Int) ≤ (q : Int)) = true := decide_eq_true (by omega)
          have FD := Lib.hid (FA.out.drewN nq)
          have BD := Lib.hid (BA.out.drewN nq)
          have BE := Lib.hid (BC.out.drewN nq)
          have HCC2 := Lib.hid hcc
          have HSE := Lib.hid (show ((strOf L[q].lab).toList == (strOf bl).toList) = (L[q].lab == bl) from strOf_eq _ _ hlq HBL.out)
          generalize L[q].nd = qd at *
          generalize L[q].nm = qm at *
          generalize L[q].ty = qt at *
          generalize L[q].lab = ql at *
          generalize L[q].hs = qh at *
          generalize L[q].at_ = qa at *
          clear HFD2 hcc d0 d1 c0 hds hlq
          go_wp2_with fail
          with_reducible refine hfd.mono ?_
          rintro e w5 ⟨rfl, f5⟩
          have F6 := Lib.hid (FD.out.trans f5)
          have B6 := Lib.hid (BD.out.fr f5 (by simp))
          obtain ⟨c0, c1, k0, k1, k2, k3, k4, k5⟩ := HCC2.out _ F6.out
          have d0 := (BE.out.fr f5 (by simp)).cell 0
          have m1 := B6.out.cell 1
          have m2 := B6.out.cell 2
          have m3 := B6.out.cell 3
          have m4 := B6.out.cell 4
          have m5 := B6.out.cell 5
          simp only [List.getElem?_toArray, List.getElem?_cons_zero, List.getElem?_cons_succ] at d0 m1 m2 m3 m4 m5
          obtain ⟨x1, e1⟩ : ∃ x, (qd == bd) = x := ⟨_, rfl⟩
          obtain ⟨x2, e2'⟩ : ∃ x, (qm == bm) = x := ⟨_, rfl⟩
          obtain ⟨x3, e3'⟩ : ∃ x, (qt == bt) = x := ⟨_, rfl⟩
          obtain ⟨x4, e4'⟩ : ∃ x, (ql == bl) = x := ⟨_, rfl⟩
          obtain ⟨x5, e5'⟩ : ∃ x, (qh == bh) = x := ⟨_, rfl⟩
          have e2 : ((qm : Int) == bm) = x2 := by rw [← e2', Bool.eq_iff_iff, beq_iff_eq, beq_iff_eq]; omega
          have e3 : ((qt : Int) == bt) = x3 := by rw [← e3', Bool.eq_iff_iff, beq_iff_eq, beq_iff_eq]; omega
          have e5 : ((qh : Int) == bh) = x5 := by rw [← e5', Bool.eq_iff_iff, beq_iff_eq, beq_iff_eq]; omega
          have e4 := HSE.out
          rw [e4'] at e4
          rw [e1, e2', e3', e4', e5'] at hPq
          rw [hPq] at hun
          have HU := Lib.hid hun
          have HB6 := Lib.hid B6.out
          have HPX := Lib.hid (show ∀ V, Fr [] w V → V.cell? ⟨px, 1, none⟩ = some (.slice (some ⟨g, 0, none⟩) L.length cap) from fun V hV => (HCC2.out V hV).2.1)
          clear hfd f5 FD BD BE HCC2 hPq hun HSE e2' e3' e4' e5' B6 k0
          generalize strOf ql = qs at *
          generalize hnn : L.length = n at *
          have hcase : (x1 = true ∧ x2 = true ∧ x3 = true ∧ x4 = true ∧ x5 = true) ∨ ((x1 && x2 && x3 && x4 && x5) = false ∧ (x1 = false ∨ (x1 = true ∧ x2 = false) ∨ (x1 = true ∧ x2 = true ∧ x3 = false) ∨ (x1 = true ∧ x2 = true ∧ x3 = true ∧ x4 = false) ∨ (x1 = true ∧ x2 = true ∧ x3 = true ∧ x4 = true ∧ x5 = false))) := by
            cases x1 <;> cases x2 <;> cases x3 <;> cases x4 <;> cases x5 <;> simp
          have hY := And.intro c1 (And.intro (And.intro k1 (And.intro k2 (And.intro k3 (And.intro k4 k5)))) (And.intro m1 (And.intro m2 (And.intro m3 (And.intro m4 m5)))))
          rcases hcase with ⟨rfl, rfl, rfl, rfl, rfl⟩ | ⟨hno, hcase⟩
          · have HRR := Lib.hid (show R = some p from HU.out)
            clear HU HZ
            go_wp2_with fail
            refine wp_region_held_drew (S := fun W => W.cell? ⟨px, 1, none⟩ = some (.slice (some ⟨g, 0, none⟩) n cap) ∧ (W.cell? ⟨g, q * 6 + 1, none⟩ = some (.bool qd) ∧ W.cell? ⟨g, q * 6 + 2, none⟩ = some (.int .u32 qm) ∧ W.cell? ⟨g, q * 6 + 3, none⟩ = some (.int .u16 qt) ∧ W.cell? ⟨g, q * 6 + 4, none⟩ = some (.string qs) ∧ W.cell? ⟨g, q * 6 + 5, none⟩ = some (.int .u32 qh)) ∧ W.cell? ⟨w.heap.size, 1, none⟩ = some (.bool bd) ∧ W.cell? ⟨w.heap.size, 2, none⟩ = some (.int .u32 bm) ∧ W.cell? ⟨w.heap.size, 3, none⟩ = some (.int .u16 bt) ∧ W.cell? ⟨w.heap.size, 4, none⟩ = some (.string (strOf bl)) ∧ W.cell? ⟨w.heap.size, 5, none⟩ = some (.int .u32 bh)) (by kernel_rfl) (hY) (fun yH => ?_)
            refine tkY 0 yH (h := ?_)
            refine tkY 1 yH (h := ?_)
            refine tkY 2 yH (h := ?_)
            refine tkY 3 yH (h := ?_)
            refine tkY 4 yH (h := ?_)
            refine tkY 5 yH (h := ?_)
            refine tkY 6 yH (h := ?_)
            refine tkY 7 yH (h := ?_)
            refine tkY 8 yH (h := ?_)
            refine tkY 9 yH (h := ?_)
            refine tkY 10 yH (h := ?_)
            refine tkY 11 yH (h := ?_)
            refine tkY 12 yH (h := ?_)
            refine tkY 13 yH (h := ?_)
            refine tkY 14 yH (h := ?_)
            refine tkY 15 yH (h := ?_)
            refine tkY 16 yH (h := ?_)
            refine tkY 17 yH (h := ?_)
            refine tkY 18 yH (h := ?_)
            refine tkY 19 yH (h := ?_)
            refine tkY 20 yH (h := ?_)
            refine tkY 21 yH (h := ?_)
            refine tkY 22 yH (h := ?_)
            refine tkY 23 yH (h := ?_)
            refine tkY 24 yH (h := ?_)
            refine tkY 25 yH (h := ?_)
            refine tkY 26 yH (h := ?_)
            refine tkY 27 yH (h := ?_)
            refine tkY 28 yH (h := ?_)
            refine tkY 29 yH (h := ?_)
            refine tkY 30 yH (h := ?_)
            refine tkY 31 yH (h := ?_)
            refine tkY 32 yH (h := ?_)
            refine tkY 33 yH (h := ?_)
            refine tkY 34 yH (h := ?_)
            refine tkY 35 yH (h := ?_)
            refine tkY 36 yH (h := ?_)
            refine tkY 37 yH (h := ?_)
            refine tkY 38 yH (h := ?_)
            refine tkY 39 yH (h := ?_)
            refine tkY 40 yH (h := ?_)
            refine tkY 41 yH (h := ?_)
            refine tkY 42 yH (h := ?_)
            refine tkY 43 yH (h := ?_)
            refine tkY 44 yH (h := ?_)
            refine tkY 45 yH (h := ?_)
            refine tkY 46 yH (h := ?_)
            refine tkY 47 yH (h := ?_)
            refine tkY 48 yH (h := ?_)
            refine tkY 49 yH (h := ?_)
            refine tkY 50 yH (h := ?_)
            refine tkY 51 yH (h := ?_)
            refine tkY 52 yH (h := ?_)
            refine tkY 53 yH (h := ?_)
            refine tkY 54 yH (h := ?_)
            refine tkY 55 yH (h := ?_)
            refine tkY 56 yH (h := ?_)
            refine tkY 57 yH (h := ?_)
            refine tkY 58 yH (h := ?_)
            refine tkY 59 yH (h := ?_)
            refine tkY 60 yH (h := ?_)
            refine tkY 61 yH (h := ?_)
            refine tkY 62 yH (h := ?_)
            refine tkY 63 yH (h := ?_)
            refine tkY 64 yH (h := ?_)
            refine tkY 65 yH (h := ?_)
            refine tkY 66 yH (h := ?_)
            refine wpAnyH_done (by kernel_rfl) ?_ _
            try simp only [Act.put, List.getElem_toArray, List.getElem_cons_zero, List.getElem_cons_succ, List.setIfInBounds_toArray, List.set_cons_zero, List.set_cons_succ]
            go_wp2_with fail
            go_ret2
            exact ⟨by rw [HRR.out, lkV, HT.out]; rfl, F6.out.drew⟩
          · have HR2 := Lib.hid (show FS (224 - (j + 1)) (j + 1) = R from by
              have := HU.out
              rw [hno, if_neg (by simp)] at this
              exact this.symm)
            clear HU hno HZ
            rcases hcase with rfl | ⟨rfl, rfl⟩ | ⟨rfl, rfl, rfl⟩ | ⟨rfl, rfl, rfl, rfl⟩ | ⟨rfl, rfl, rfl, rfl, rfl⟩
            · go_wp2_with fail
              refine wp_region_held_drew (S := fun W => W.cell? ⟨px, 1, none⟩ = some (.slice (some ⟨g, 0, none⟩) n cap) ∧ (W.cell? ⟨g, q * 6 + 1, none⟩ = some (.bool qd) ∧ W.cell? ⟨g, q * 6 + 2, none⟩ = some (.int .u32 qm) ∧ W.cell? ⟨g, q * 6 + 3, none⟩ = some (.int .u16 qt) ∧ W.cell? ⟨g, q * 6 + 4, none⟩ = some (.string qs) ∧ W.cell? ⟨g, q * 6 + 5, none⟩ = some (.int .u32 qh)) ∧ W.cell? ⟨w.heap.size, 1, none⟩ = some (.bool bd) ∧ W.cell? ⟨w.heap.size, 2, none⟩ = some (.int .u32 bm) ∧ W.cell? ⟨w.heap.size, 3, none⟩ = some (.int .u16 bt) ∧ W.cell? ⟨w.heap.size, 4, none⟩ = some (.string (strOf bl)) ∧ W.cell? ⟨w.heap.size, 5, none⟩ = some (.int .u32 bh)) (by kernel_rfl) (hY) (fun yH => ?_)
              refine tkY 0 yH (h := ?_)
              refine tkY 1 yH (h := ?_)
              refine tkY 2 yH (h := ?_)
              refine tkY 3 yH (h := ?_)
              refine tkY 4 yH (h := ?_)
              refine tkY 5 yH (h := ?_)
              refine tkY 6 yH (h := ?_)
              refine tkY 7 yH (h := ?_)
              refine tkY 8 yH (h := ?_)
              refine tkY 9 yH (h := ?_)
              refine tkY 10 yH (h := ?_)
              refine tkY 11 yH (h := ?_)
              refine tkY 12 yH (h := ?_)
              refine tkY 13 yH (h := ?_)
              refine tkY 14 yH (h := ?_)
              refine tkY 15 yH (h := ?_)
              refine tkN 16 yH (h := ?_)
              refine tkN 17 yH (h := ?_)
              refine tkN 18 yH (h := ?_)
              refine tkN 19 yH (h := ?_)
              refine tkN 20 yH (h := ?_)
              refine tkN 21 yH (h := ?_)
              refine tkN 22 yH (h := ?_)
              refine tkN 23 yH (h := ?_)
              refine tkN 24 yH (h := ?_)
              refine tkN 25 yH (h := ?_)
              refine tkN 26 yH (h := ?_)
              refine tkY 27 yH (h := ?_)
              refine tkY 28 yH (h := ?_)
              refine tkN 29 yH (h := ?_)
              refine tkN 30 yH (h := ?_)
              refine tkN 31 yH (h := ?_)
              refine tkN 32 yH (h := ?_)
              refine tkN 33 yH (h := ?_)
              refine tkN 34 yH (h := ?_)
              refine tkN 35 yH (h := ?_)
              refine tkN 36 yH (h := ?_)
              refine tkN 37 yH (h := ?_)
              refine tkN 38 yH (h := ?_)
              refine tkN 39 yH (h := ?_)
              refine tkY 40 yH (h := ?_)
              refine tkY 41 yH (h := ?_)
              refine tkN 42 yH (h := ?_)
              refine tkN 43 yH (h := ?_)
              refine tkN 44 yH (h := ?_)
              refine tkN 45 yH (h := ?_)
              refine tkN 46 yH (h := ?_)
              refine tkN 47 yH (h := ?_)
              refine tkN 48 yH (h := ?_)
              refine tkN 49 yH (h := ?_)
              refine tkN 50 yH (h := ?_)
              refine tkN 51 yH (h := ?_)
              refine tkN 52 yH (h := ?_)
              refine tkY 53 yH (h := ?_)
              refine tkY 54 yH (h := ?_)
              refine tkN 55 yH (h := ?_)
              refine tkN 56 yH (h := ?_)
              refine tkN 57 yH (h := ?_)
              refine tkN 58 yH (h := ?_)
              refine tkN 59 yH (h := ?_)
              refine tkN 60 yH (h := ?_)
              refine tkN 61 yH (h := ?_)
              refine tkN 62 yH (h := ?_)
              refine tkN 63 yH (h := ?_)
              refine tkN 64 yH (h := ?_)
              refine tkN 65 yH (h := ?_)
              refine tkY 66 yH (h := ?_)
              refine wpAnyH_done (by kernel_rfl) ?_ _
              try simp only [Act.put, List.getElem_toArray, List.getElem_cons_zero, List.getElem_cons_succ, List.setIfInBounds_toArray, List.set_cons_zero, List.set_cons_succ]
              go_wp2_with fail
              go_roundw
              case rel => exact ⟨j + 1, by omega, by go_num, F6.out.drew, HB6.out.drew, HR2⟩
              case measure => simp [intOf]; omega
            · go_wp2_with fail
              refine wp_region_held_drew (S := fun W => W.cell? ⟨px, 1, none⟩ = some (.slice (some ⟨g, 0, none⟩) n cap) ∧ (W.cell? ⟨g, q * 6 + 1, none⟩ = some (.bool qd) ∧ W.cell? ⟨g, q * 6 + 2, none⟩ = some (.int .u32 qm) ∧ W.cell? ⟨g, q * 6 + 3, none⟩ = some (.int .u16 qt) ∧ W.cell? ⟨g, q * 6 + 4, none⟩ = some (.string qs) ∧ W.cell? ⟨g, q * 6 + 5, none⟩ = some (.int .u32 qh)) ∧ W.cell? ⟨w.heap.size, 1, none⟩ = some (.bool bd) ∧ W.cell? ⟨w.heap.size, 2, none⟩ = some (.int .u32 bm) ∧ W.cell? ⟨w.heap.size, 3, none⟩ = some (.int .u16 bt) ∧ W.cell? ⟨w.heap.size, 4, none⟩ = some (.string (strOf bl)) ∧ W.cell? ⟨w.heap.size, 5, none⟩ = some (.int .u32 bh)) (by kernel_rfl) (hY) (fun yH => ?_)
              refine tkY 0 yH (h := ?_)
              refine tkY 1 yH (h := ?_)
              refine tkY 2 yH (h := ?_)
              refine tkY 3 yH (h := ?_)
              refine tkY 4 yH (h := ?_)
              refine tkY 5 yH (h := ?_)
              refine tkY 6 yH (h := ?_)
              refine tkY 7 yH (h := ?_)
              refine tkY 8 yH (h := ?_)
              refine tkY 9 yH (h := ?_)
              refine tkY 10 yH (h := ?_)
              refine tkY 11 yH (h := ?_)
              refine tkY 12 yH (h := ?_)
              refine tkY 13 yH (h := ?_)
              refine tkY 14 yH (h := ?_)
              refine tkY 15 yH (h := ?_)
              refine tkY 16 yH (h := ?_)
              refine tkY 17 yH (h := ?_)
              refine tkY 18 yH (h := ?_)
              refine tkY 19 yH (h := ?_)
              refine tkY 20 yH (h := ?_)
              refine tkY 21 yH (h := ?_)
              refine tkY 22 yH (h := ?_)
              refine tkY 23 yH (h := ?_)
              refine tkY 24 yH (h := ?_)
              refine tkY 25 yH (h := ?_)
              refine tkY 26 yH (h := ?_)
              refine tkY 27 yH (h := ?_)
              refine tkY 28 yH (h := ?_)
              refine tkN 29 yH (h := ?_)
              refine tkN 30 yH (h := ?_)
              refine tkN 31 yH (h := ?_)
              refine tkN 32 yH (h := ?_)
              refine tkN 33 yH (h := ?_)
              refine tkN 34 yH (h := ?_)
              refine tkN 35 yH (h := ?_)
              refine tkN 36 yH (h := ?_)
              refine tkN 37 yH (h := ?_)
              refine tkN 38 yH (h := ?_)
              refine tkN 39 yH (h := ?_)
              refine tkY 40 yH (h := ?_)
              refine tkY 41 yH (h := ?_)
              refine tkN 42 yH (h := ?_)
              refine tkN 43 yH (h := ?_)
              refine tkN 44 yH (h := ?_)
              refine tkN 45 yH (h := ?_)
              refine tkN 46 yH (h := ?_)
              refine tkN 47 yH (h := ?_)
              refine tkN 48 yH (h := ?_)
              refine tkN 49 yH (h := ?_)
              refine tkN 50 yH (h := ?_)
              refine tkN 51 yH (h := ?_)
              refine tkN 52 yH (h := ?_)
              refine tkY 53 yH (h := ?_)
              refine tkY 54 yH (h := ?_)
              refine tkN 55 yH (h := ?_)
              refine tkN 56 yH (h := ?_)
              refine tkN 57 yH (h := ?_)
              refine tkN 58 yH (h := ?_)
              refine tkN 59 yH (h := ?_)
              refine tkN 60 yH (h := ?_)
              refine tkN 61 yH (h := ?_)
              refine tkN 62 yH (h := ?_)
              refine tkN 63 yH (h := ?_)
              refine tkN 64 yH (h := ?_)
              refine tkN 65 yH (h := ?_)
              refine tkY 66 yH (h := ?_)
              refine wpAnyH_done (by kernel_rfl) ?_ _
              try simp only [Act.put, List.getElem_toArray, List.getElem_cons_zero, List.getElem_cons_succ, List.setIfInBounds_toArray, List.set_cons_zero, List.set_cons_succ]
              go_wp2_with fail
              go_roundw
              case rel => exact ⟨j + 1, by omega, by go_num, F6.out.drew, HB6.out.drew, HR2⟩
              case measure => simp [intOf]; omega
            · go_wp2_with fail
              refine wp_region_held_drew (S := fun W => W.cell? ⟨px, 1, none⟩ = some (.slice (some ⟨g, 0, none⟩) n cap) ∧ (W.cell? ⟨g, q * 6 + 1, none⟩ = some (.bool qd) ∧ W.cell? ⟨g, q * 6 + 2, none⟩ = some (.int .u32 qm) ∧ W.cell? ⟨g, q * 6 + 3, none⟩ = some (.int .u16 qt) ∧ W.cell? ⟨g, q * 6 + 4, none⟩ = some (.string qs) ∧ W.cell? ⟨g, q * 6 + 5, none⟩ = some (.int .u32 qh)) ∧ W.cell? ⟨w.heap.size, 1, none⟩ = some (.bool bd) ∧ W.cell? ⟨w.heap.size, 2, none⟩ = some (.int .u32 bm) ∧ W.cell? ⟨w.heap.size, 3, none⟩ = some (.int .u16 bt) ∧ W.cell? ⟨w.heap.size, 4, none⟩ = some (.string (strOf bl)) ∧ W.cell? ⟨w.heap.size, 5, none⟩ = some (.int .u32 bh)) (by kernel_rfl) (hY) (fun yH => ?_)
              refine tkY 0 yH (h := ?_)
              refine tkY 1 yH (h := ?_)
              refine tkY 2 yH (h := ?_)
              refine tkY 3 yH (h := ?_)
              refine tkY 4 yH (h := ?_)
              refine tkY 5 yH (h := ?_)
              refine tkY 6 yH (h := ?_)
              refine tkY 7 yH (h := ?_)
              refine tkY 8 yH (h := ?_)
              refine tkY 9 yH (h := ?_)
              refine tkY 10 yH (h := ?_)
              refine tkY 11 yH (h := ?_)
              refine tkY 12 yH (h := ?_)
              refine tkY 13 yH (h := ?_)
              refine tkY 14 yH (h := ?_)
              refine tkY 15 yH (h := ?_)
              refine tkY 16 yH (h := ?_)
              refine tkY 17 yH (h := ?_)
              refine tkY 18 yH (h := ?_)
              refine tkY 19 yH (h := ?_)
              refine tkY 20 yH (h := ?_)
              refine tkY 21 yH (h := ?_)
              refine tkY 22 yH (h := ?_)
              refine tkY 23 yH (h := ?_)
              refine tkY 24 yH (h := ?_)
              refine tkY 25 yH (h := ?_)
              refine tkY 26 yH (h := ?_)
              refine tkY 27 yH (h := ?_)
              refine tkY 28 yH (h := ?_)
              refine tkY 29 yH (h := ?_)
              refine tkY 30 yH (h := ?_)
              refine tkY 31 yH (h := ?_)
              refine tkY 32 yH (h := ?_)
              refine tkY 33 yH (h := ?_)
              refine tkY 34 yH (h := ?_)
              refine tkY 35 yH (h := ?_)
              refine tkY 36 yH (h := ?_)
              refine tkY 37 yH (h := ?_)
              refine tkY 38 yH (h := ?_)
              refine tkY 39 yH (h := ?_)
              refine tkY 40 yH (h := ?_)
              refine tkY 41 yH (h := ?_)
              refine tkN 42 yH (h := ?_)
              refine tkN 43 yH (h := ?_)
              refine tkN 44 yH (h := ?_)
              refine tkN 45 yH (h := ?_)
              refine tkN 46 yH (h := ?_)
              refine tkN 47 yH (h := ?_)
              refine tkN 48 yH (h := ?_)
              refine tkN 49 yH (h := ?_)
              refine tkN 50 yH (h := ?_)
              refine tkN 51 yH (h := ?_)
              refine tkN 52 yH (h := ?_)
              refine tkY 53 yH (h := ?_)
              refine tkY 54 yH (h := ?_)
              refine tkN 55 yH (h := ?_)
              refine tkN 56 yH (h := ?_)
              refine tkN 57 yH (h := ?_)
              refine tkN 58 yH (h := ?_)
              refine tkN 59 yH (h := ?_)
              refine tkN 60 yH (h := ?_)
              refine tkN 61 yH (h := ?_)
              refine tkN 62 yH (h := ?_)
              refine tkN 63 yH (h := ?_)
              refine tkN 64 yH (h := ?_)
              refine tkN 65 yH (h := ?_)
              refine tkY 66 yH (h := ?_)
              refine wpAnyH_done (by kernel_rfl) ?_ _
              try simp only [Act.put, List.getElem_toArray, List.getElem_cons_zero, List.getElem_cons_succ, List.setIfInBounds_toArray, List.set_cons_zero, List.set_cons_succ]
              go_wp2_with fail
              go_roundw
              case rel => exact ⟨j + 1, by omega, by go_num, F6.out.drew, HB6.out.drew, HR2⟩
              case measure => simp [intOf]; omega
            · go_wp2_with fail
              refine wp_region_held_drew (S := fun W => W.cell? ⟨px, 1, none⟩ = some (.slice (some ⟨g, 0, none⟩) n cap) ∧ (W.cell? ⟨g, q * 6 + 1, none⟩ = some (.bool qd) ∧ W.cell? ⟨g, q * 6 + 2, none⟩ = some (.int .u32 qm) ∧ W.cell? ⟨g, q * 6 + 3, none⟩ = some (.int .u16 qt) ∧ W.cell? ⟨g, q * 6 + 4, none⟩ = some (.string qs) ∧ W.cell? ⟨g, q * 6 + 5, none⟩ = some (.int .u32 qh)) ∧ W.cell? ⟨w.heap.size, 1, none⟩ = some (.bool bd) ∧ W.cell? ⟨w.heap.size, 2, none⟩ = some (.int .u32 bm) ∧ W.cell? ⟨w.heap.size, 3, none⟩ = some (.int .u16 bt) ∧ W.cell? ⟨w.heap.size, 4, none⟩ = some (.string (strOf bl)) ∧ W.cell? ⟨w.heap.size, 5, none⟩ = some (.int .u32 bh)) (by kernel_rfl) (hY) (fun yH => ?_)
              refine tkY 0 yH (h := ?_)
              refine tkY 1 yH (h := ?_)
              refine tkY 2 yH (h := ?_)
              refine tkY 3 yH (h := ?_)
              refine tkY 4 yH (h := ?_)
              refine tkY 5 yH (h := ?_)
              refine tkY 6 yH (h := ?_)
              refine tkY 7 yH (h := ?_)
              refine tkY 8 yH (h := ?_)
              refine tkY 9 yH (h := ?_)
              refine tkY 10 yH (h := ?_)
              refine tkY 11 yH (h := ?_)
              refine tkY 12 yH (h := ?_)
              refine tkY 13 yH (h := ?_)
              refine tkY 14 yH (h := ?_)
              refine tkY 15 yH (h := ?_)
              refine tkY 16 yH (h := ?_)
              refine tkY 17 yH (h := ?_)
              refine tkY 18 yH (h := ?_)
              refine tkY 19 yH (h := ?_)
              refine tkY 20 yH (h := ?_)
              refine tkY 21 yH (h := ?_)
              refine tkY 22 yH (h := ?_)
              refine tkY 23 yH (h := ?_)
              refine tkY 24 yH (h := ?_)
              refine tkY 25 yH (h := ?_)
              refine tkY 26 yH (h := ?_)
              refine tkY 27 yH (h := ?_)
              refine tkY 28 yH (h := ?_)
              refine tkY 29 yH (h := ?_)
              refine tkY 30 yH (h := ?_)
              refine tkY 31 yH (h := ?_)
              refine tkY 32 yH (h := ?_)
              refine tkY 33 yH (h := ?_)
              refine tkY 34 yH (h := ?_)
              refine tkY 35 yH (h := ?_)
              refine tkY 36 yH (h := ?_)
              refine tkY 37 yH (h := ?_)
              refine tkY 38 yH (h := ?_)
              refine tkY 39 yH (h := ?_)
              refine tkY 40 yH (h := ?_)
              refine tkY 41 yH (h := ?_)
              refine tkY 42 yH (h := ?_)
              refine tkY 43 yH (h := ?_)
              refine tkY 44 yH (h := ?_)
              refine tkY 45 yH (h := ?_)
              refine tkY 46 yH (h := ?_)
              refine tkY 47 yH (h := ?_)
              refine tkY 48 yH (h := ?_)
              refine tkY 49 yH (h := ?_)
              refine tkY 50 yH (h := ?_)
              refine tkY 51 yH (h := ?_)
              refine tkY 52 yH (h := ?_)
              refine tkY 53 yH (h := ?_)
              refine tkY 54 yH (h := ?_)
              refine tkN 55 yH (h := ?_)
              refine tkN 56 yH (h := ?_)
              refine tkN 57 yH (h := ?_)
              refine tkN 58 yH (h := ?_)
              refine tkN 59 yH (h := ?_)
              refine tkN 60 yH (h := ?_)
              refine tkN 61 yH (h := ?_)
              refine tkN 62 yH (h := ?_)
              refine tkN 63 yH (h := ?_)
              refine tkN 64 yH (h := ?_)
              refine tkN 65 yH (h := ?_)
              refine tkY 66 yH (h := ?_)
              refine wpAnyH_done (by kernel_rfl) ?_ _
              try simp only [Act.put, List.getElem_toArray, List.getElem_cons_zero, List.getElem_cons_succ, List.setIfInBounds_toArray, List.set_cons_zero, List.set_cons_succ]
              go_wp2_with fail
              go_roundw
              case rel => exact ⟨j + 1, by omega, by go_num, F6.out.drew, HB6.out.drew, HR2⟩
              case measure => simp [intOf]; omega
            · go_wp2_with fail
              refine wp_region_held_drew (S := fun W => W.cell? ⟨px, 1, none⟩ = some (.slice (some ⟨g, 0, none⟩) n cap) ∧ (W.cell? ⟨g, q * 6 + 1, none⟩ = some (.bool qd) ∧ W.cell? ⟨g, q * 6 + 2, none⟩ = some (.int .u32 qm) ∧ W.cell? ⟨g, q * 6 + 3, none⟩ = some (.int .u16 qt) ∧ W.cell? ⟨g, q * 6 + 4, none⟩ = some (.string qs) ∧ W.cell? ⟨g, q * 6 + 5, none⟩ = some (.int .u32 qh)) ∧ W.cell? ⟨w.heap.size, 1, none⟩ = some (.bool bd) ∧ W.cell? ⟨w.heap.size, 2, none⟩ = some (.int .u32 bm) ∧ W.cell? ⟨w.heap.size, 3, none⟩ = some (.int .u16 bt) ∧ W.cell? ⟨w.heap.size, 4, none⟩ = some (.string (strOf bl)) ∧ W.cell? ⟨w.heap.size, 5, none⟩ = some (.int .u32 bh)) (by kernel_rfl) (hY) (fun yH => ?_)
              refine tkY 0 yH (h := ?_)
              refine tkY 1 yH (h := ?_)
              refine tkY 2 yH (h := ?_)
              refine tkY 3 yH (h := ?_)
              refine tkY 4 yH (h := ?_)
              refine tkY 5 yH (h := ?_)
              refine tkY 6 yH (h := ?_)
              refine tkY 7 yH (h := ?_)
              refine tkY 8 yH (h := ?_)
              refine tkY 9 yH (h := ?_)
              refine tkY 10 yH (h := ?_)
              refine tkY 11 yH (h := ?_)
              refine tkY 12 yH (h := ?_)
              refine tkY 13 yH (h := ?_)
              refine tkY 14 yH (h := ?_)
              refine tkY 15 yH (h := ?_)
              refine tkY 16 yH (h := ?_)
              refine tkY 17 yH (h := ?_)
              refine tkY 18 yH (h := ?_)
              refine tkY 19 yH (h := ?_)
              refine tkY 20 yH (h := ?_)
              refine tkY 21 yH (h := ?_)
              refine tkY 22 yH (h := ?_)
              refine tkY 23 yH (h := ?_)
              refine tkY 24 yH (h := ?_)
              refine tkY 25 yH (h := ?_)
              refine tkY 26 yH (h := ?_)
              refine tkY 27 yH (h := ?_)
              refine tkY 28 yH (h := ?_)
              refine tkY 29 yH (h := ?_)
              refine tkY 30 yH (h := ?_)
              refine tkY 31 yH (h := ?_)
              refine tkY 32 yH (h := ?_)
              refine tkY 33 yH (h := ?_)
              refine tkY 34 yH (h := ?_)
              refine tkY 35 yH (h := ?_)
              refine tkY 36 yH (h := ?_)
              refine tkY 37 yH (h := ?_)
              refine tkY 38 yH (h := ?_)
              refine tkY 39 yH (h := ?_)
              refine tkY 40 yH (h := ?_)
              refine tkY 41 yH (h := ?_)
              refine tkY 42 yH (h := ?_)
              refine tkY 43 yH (h := ?_)
              refine tkY 44 yH (h := ?_)
              refine tkY 45 yH (h := ?_)
              refine tkY 46 yH (h := ?_)
              refine tkY 47 yH (h := ?_)
              refine tkY 48 yH (h := ?_)
              refine tkY 49 yH (h := ?_)
              refine tkY 50 yH (h := ?_)
              refine tkY 51 yH (h := ?_)
              refine tkY 52 yH (h := ?_)
              refine tkY 53 yH (h := ?_)
              refine tkY 54 yH (h := ?_)
              refine tkY 55 yH (h := ?_)
              refine tkY 56 yH (h := ?_)
              refine tkY 57 yH (h := ?_)
              refine tkY 58 yH (h := ?_)
              refine tkY 59 yH (h := ?_)
              refine tkY 60 yH (h := ?_)
              refine tkY 61 yH (h := ?_)
              refine tkY 62 yH (h := ?_)
              refine tkY 63 yH (h := ?_)
              refine tkY 64 yH (h := ?_)
              refine tkY 65 yH (h := ?_)
              refine tkY 66 yH (h := ?_)
              refine wpAnyH_done (by kernel_rfl) ?_ _
              try simp only [Act.put, List.getElem_toArray, List.getElem_cons_zero, List.getElem_cons_succ, List.setIfInBounds_toArray, List.set_cons_zero, List.set_cons_succ]
              go_wp2_with fail
              go_roundw
              case rel => exact ⟨j + 1, by omega, by go_num, F6.out.drew, HB6.out.drew, HR2⟩
              case measure => simp [intOf]; omega
    · have b1 : decide ((j : Int) < 224) = false := decide_eq_false (by omega)
      have b1' : decide (j < 224) = false := decide_eq_false hlt
      have ej : j = 224 := by omega
      have hrz := HRj.out
      rw [ej, HZ.out] at hrz
      subst hrz
      clear hF hB hlt HRj HUN HZ ej
      go_wp2_with fail
      go_ret2
      exact ⟨rfl, F1.out⟩
end
end Go.Proofs.YtmemoopkgjgmiaaGreatDoor

/- The document's index of layer 20: Entry, Node. -/
namespace Go.Proofs.YtmemoopkgjgmiaaGreatDoor
set_option linter.unusedVariables false
set_option linter.unusedSimpArgs false
open Go.RowKit

section
variable {w W : World} {px base gt ct cap : Nat} {T T' H : Nat → Nat} {L : List RB} {ad : Option Addr} {S : List Nat}
theorem lkV_two (T : Nat → Nat) (R : Option Nat) : ∃ (z : Nat) (k : Bool), lkV T R = .tuple #[.int .i64 z, .bool k] := by
  cases R with
  | some i => exact ⟨_, _, rfl⟩
  | none => exact ⟨0, _, rfl⟩
theorem x20_entry (h : IsX w px base T H L gt ct ad cap) (r : RZ 224 T H) (hT : ∀ s, T s < 4294967296) (bm bt bh : Nat) (hbh : bh < 4294967296) (hLl : ∀ c ∈ L, ∀ x ∈ c.lab, x < 256) (P : Nat → Bool)
    (hP : ∀ s, s < 224 → T s ≠ 0 → ∃ q, At20 H L (T s) q ∧ ∀ hq : q < L.length, P (T s) = L[q].like ⟨0, false, bm, bt, [], bh⟩) :
    Calls Tryz.prog 110 #[.pointer (some ⟨px, 0, none⟩), .int .u32 bm, .int .u16 bt, .int .u32 bh] w fun e w' => e = .returned (lkV T (fndT T H 224 (bh % 224) P)) ∧ Fr [] w w' := by
  have hl := x20_look h r hT ⟨0, false, bm, bt, [], bh⟩ (fun x hx => nomatch hx) hbh hLl P hP
  have hse : strOf [] = ⟨#[]⟩ := rfl
  simp only [hse] at hl
  obtain ⟨z, k, e⟩ := lkV_two T (fndT T H 224 (bh % 224) P)
  rw [e] at hl ⊢
  clear h r hT hLl hP e
  go_enter Tryz.func110, Tryz.ntmps110
  go_wp2_with fail
  with_reducible refine hl.mono ?_
  rintro e w1 ⟨rfl, f1⟩
  go_wp2_with fail
  go_ret2
  exact ⟨rfl, f1⟩
theorem x20_node (h : IsX w px base T H L gt ct ad cap) (r : RZ 224 T H) (hT : ∀ s, T s < 4294967296) (bm : Nat) (bl : List Nat) (bh : Nat) (hlb : ∀ x ∈ bl, x < 256) (hbh : bh < 4294967296) (hLl : ∀ c ∈ L, ∀ x ∈ c.lab, x < 256) (P : Nat → Bool)
    (hP : ∀ s, s < 224 → T s ≠ 0 → ∃ q, At20 H L (T s) q ∧ ∀ hq : q < L.length, P (T s) = L[q].like ⟨0, true, bm, 0, bl, bh⟩) :
    Calls Tryz.prog 112 #[.pointer (some ⟨px, 0, none⟩), .int .u32 bm, .string (strOf bl), .int .u32 bh] w fun e w' => e = .returned (lkV T (fndT T H 224 (bh % 224) P)) ∧ Fr [] w w' := by
  have hl := x20_look h r hT ⟨0, true, bm, 0, bl, bh⟩ hlb hbh hLl P hP
  simp only at hl
  obtain ⟨z, k, e⟩ := lkV_two T (fndT T H 224 (bh % 224) P)
  rw [e] at hl ⊢
  have hl : Calls Tryz.prog 207 #[.pointer (some ⟨px, 0, none⟩), .agg #[.int .i64 0, .bool true, .int .u32 bm, .int .u16 0, .string (strOf bl), .int .u32 bh]] w fun e w' => e = .returned (.tuple #[.int .i64 z, .bool k]) ∧ Fr [] w w' := hl
  clear h r hT hLl hP e hlb
  go_enter Tryz.func112, Tryz.ntmps112
  go_wp2_with fail
  with_reducible refine hl.mono ?_
  rintro e w1 ⟨rfl, f1⟩
  go_wp2_with fail
  go_ret2
  exact ⟨rfl, f1⟩
end
end Go.Proofs.YtmemoopkgjgmiaaGreatDoor

/- IndexPlays: it is looked for, in both. -/
namespace Go.Proofs.YtmemoopkgjgmiaaGreatDoor
set_option linter.unusedVariables false
set_option linter.unusedSimpArgs false
open Go.RowKit

section
variable {w0 W W' w : World} {q : MH} {S : SS} {x y p : Nat} {t u v : TM} {Ls : Nat → Prop} {E : Nat → HB} {B : Nat → List Nat} {px base gt ct cap : Nat} {L : List RB} {ad : Option Addr} {b : RB}
theorem KB.en (k : KB Ls E B b x) (nm ty hs : Nat) : isEn E nm ty hs x = b.like ⟨0, false, nm, ty, [], hs⟩ := by
  have ke := k.e
  have kf := k.fw
  obtain ⟨ba, bd, bm, bt, bl, bh⟩ := b
  unfold isEn RB.like
  rw [ke]
  unfold RB.few at kf
  simp only at ke kf ⊢
  cases bd with
  | true => simp [rbX]
  | false =>
    have hl : bl = [] := List.isEmpty_iff.1 kf
    subst hl
    simp [rbX]
theorem KB.nod (k : KB Ls E B b x) (nm : Nat) (lab : List Nat) (hs : Nat) : isNd E B nm lab hs x = b.like ⟨0, true, nm, 0, lab, hs⟩ := by
  have ke := k.e
  have kl := k.lb
  have kf := k.fw
  obtain ⟨ba, bd, bm, bt, bl, bh⟩ := b
  unfold isNd RB.like
  rw [ke, kl]
  unfold RB.few at kf
  simp only at ke kf ⊢
  cases bd with
  | true =>
    have hf := of_decide_eq_true kf
    have h2 : bt = 0 := hf.2.2
    subst h2
    simp [rbX]
  | false => simp [rbX]
set_option maxRecDepth 100000 in
theorem ps_looked (c0 : PC w0 q base) (h : PS w0 q px base L W) (b : RB) (hb : b.Ok) : Calls Tryz.prog 25 #[.pointer (some ⟨q.m, 0, none⟩), .pointer (some ⟨px, 0, none⟩), .agg #[.int .i64 b.at_, .bool b.nd, .int .u32 b.nm, .int .u16 b.ty, .string (strOf b.lab), .int .u32 b.hs]] W fun e w' => e = .returned (.bool true) ∧ Fr q.blocks W w' ∧ PS w0 q px base L w' := by
  obtain ⟨S, Ls, u, E, B, gt, ct, ad, cap, g, hX, k⟩ := h
  have HLS := Lib.hid (show ∀ s, s < 224 → u.sl s ≠ 0 → Ls (u.sl s) from fun s hs h0 => (g.ix.sl s (by rw [g.s]; exact hs)).resolve_left h0)
  have HLL := Lib.hid (show ∀ c ∈ L, ∀ x ∈ c.lab, x < 256 from fun c hc => by
    obtain ⟨x, kx⟩ := k.i c hc
    exact kx.ok.lab)
  have HTB := Lib.hid (show ∀ i, u.sl i < 4294967296 from fun i => g.h.m.ok.sl i)
  obtain ⟨z1, k1, hz1⟩ := lkV_two u.sl (fndT u.sl (hmE u E) 224 (b.hs % 224) (isEn E b.nm b.ty b.hs))
  obtain ⟨z2, k2, hz2⟩ := lkV_two u.sl (fndT u.sl (hmE u E) 224 (b.hs % 224) (isNd E B b.nm b.lab b.hs))
  have HE1 := Lib.hid (fun V (hV : GI w0 q S Ls u E B V) => (show Calls Tryz.prog 91 #[.pointer (some ⟨q.m, 0, none⟩), .int .u32 b.nm, .int .u16 b.ty, .int .u32 b.hs] V fun e w' => e = .returned (.tuple #[.int .i64 z1, .bool k1]) ∧ Fr q.blocks V w' ∧ GI w0 q S Ls u E B w' from
    (ix_entry hV b.nm b.ty b.hs hb.nm hb.ty hb.hs).mono fun e w' ⟨k1, k2, k3⟩ => ⟨by rw [← hz1, k3]; cases fndT u.sl (hmE u E) 224 (b.hs % 224) (isEn E b.nm b.ty b.hs) <;> rfl, k1, k2⟩))
  have HN1 := Lib.hid (fun V (hV : GI w0 q S Ls u E B V) => (show Calls Tryz.prog 111 #[.pointer (some ⟨q.m, 0, none⟩), .int .u32 b.nm, .string (strOf b.lab), .int .u32 b.hs] V fun e w' => e = .returned (.tuple #[.int .i64 z2, .bool k2]) ∧ Fr q.blocks V w' ∧ GI w0 q S Ls u E B w' from
    (ix_node hV b.nm b.lab b.hs hb.nm hb.lab hb.len hb.hs).mono fun e w' ⟨k1, k2, k3⟩ => ⟨by rw [← hz2, k3]; cases fndT u.sl (hmE u E) 224 (b.hs % 224) (isNd E B b.nm b.lab b.hs) <;> rfl, k1, k2⟩))
  have HE2 := Lib.hid (fun V (hV : IsX V px base u.sl (hmE u E) L gt ct ad cap) => (show Calls Tryz.prog 110 #[.pointer (some ⟨px, 0, none⟩), .int .u32 b.nm, .int .u16 b.ty, .int .u32 b.hs] V fun e w' => e = .returned (.tuple #[.int .i64 z1, .bool k1]) ∧ Fr [] V w' from by
    have := x20_entry hV g.rh HTB.out b.nm b.ty b.hs hb.hs HLL.out (isEn E b.nm b.ty b.hs) (fun s hs h0 => by
      obtain ⟨p, a, kb⟩ := k.at_ g (HLS.out s hs h0)
      exact ⟨p, a, fun hp => (kb hp).en _ _ _⟩)
    rwa [hz1] at this))
  have HN2 := Lib.hid (fun V (hV : IsX V px base u.sl (hmE u E) L gt ct ad cap) => (show Calls Tryz.prog 112 #[.pointer (some ⟨px, 0, none⟩), .int .u32 b.nm, .string (strOf b.lab), .int .u32 b.hs] V fun e w' => e = .returned (.tuple #[.int .i64 z2, .bool k2]) ∧ Fr [] V w' from by
    have := x20_node hV g.rh HTB.out b.nm b.lab b.hs hb.lab hb.hs HLL.out (isNd E B b.nm b.lab b.hs) (fun s hs h0 => by
      obtain ⟨p, a, kb⟩ := k.at_ g (HLS.out s hs h0)
      exact ⟨p, a, fun hp => (kb hp).nod _ _ _⟩)
    rwa [hz2] at this))
  have HPS := Lib.hid (fun V (h1 : GI w0 q S Ls u E B V) (h2 : IsX V px base u.sl (hmE u E) L gt ct ad cap) => (show PS w0 q px base L V from ⟨S, Ls, u, E, B, gt, ct, ad, cap, h1, h2, k⟩))
  obtain ⟨ba, bd, bm, bt, bl, bh⟩ := b
  simp only at HE1 HN1 HE2 HN2 ⊢
  have f0 := (Fr.refl [] W).alloc (.cells #[.int .i64 ba, .bool bd, .int .u32 bm, .int .u16 bt, .string (strOf bl), .int .u32 bh] 33)
  have G0 := Lib.hid (g.fr0 f0)
  have X0 := Lib.hid (hX.fr0 f0)
  have F0 := Lib.hid (f0.nil (S := q.blocks))
  have hlt := g.h.m.lt
  have hnq : W.heap.size ∉ q.blocks := fun hm => by have := hlt _ hm; omega
  have B0 := Lib.hid (Blk.new W 33 #[.int .i64 ba, .bool bd, .int .u32 bm, .int .u16 bt, .string (strOf bl), .int .u32 bh])
  have HQ := Lib.hid c0.q
  generalize hmE u E = H at *
  generalize u.sl = T at *
  generalize strOf bl = sb at *
  have e1 : ((z1 : Int) == z1) = true := beq_self_eq_true _
  have e2 : ((z2 : Int) == z2) = true := beq_self_eq_true _
  have e3 : (k1 == k1) = true := beq_self_eq_true _
  have e4 : (k2 == k2) = true := beq_self_eq_true _
  clear g hX k hb hz1 hz2 f0 hlt c0 HLS HLL HTB
  go_enter Tryz.func25, Tryz.ntmps25
  go_wp2_with fail
  with_reducible refine (HE1.out _ G0.out).mono ?_
  rintro e w1 ⟨rfl, f1, g1⟩
  have X1 := Lib.hid (X0.out.fr f1 HQ.out)
  have B1 := Lib.hid (B0.out.fr f1 hnq)
  have F1 := Lib.hid (F0.out.trans f1)
  have G1 := Lib.hid g1
  have d2 := B1.out.cell 2
  have d3 := B1.out.cell 3
  have d5 := B1.out.cell 5
  simp only [List.getElem?_toArray, List.getElem?_cons_zero, List.getElem?_cons_succ] at d2 d3 d5
  clear f1 g1
  go_wp2_with fail
  with_reducible refine (HE2.out _ X1.out).mono ?_
  rintro e w2 ⟨rfl, f2⟩
  have X2 := Lib.hid (X1.out.fr0 f2)
  have B2 := Lib.hid (B1.out.fr f2 (by simp))
  have F2 := Lib.hid (F1.out.trans f2.nil)
  have G2 := Lib.hid (G1.out.fr0 f2)
  have d2 := B2.out.cell 2
  have d4 := B2.out.cell 4
  have d5 := B2.out.cell 5
  simp only [List.getElem?_toArray, List.getElem?_cons_zero, List.getElem?_cons_succ] at d2 d4 d5
  clear f2 d3
  go_wp2_with fail
  with_reducible refine (HN1.out _ G2.out).mono ?_
  rintro e w3 ⟨rfl, f3, g3⟩
  have X3 := Lib.hid (X2.out.fr f3 HQ.out)
  have B3 := Lib.hid (B2.out.fr f3 hnq)
  have F3 := Lib.hid (F2.out.trans f3)
  have G3 := Lib.hid g3
  have d2 := B3.out.cell 2
  have d4 := B3.out.cell 4
  have d5 := B3.out.cell 5
  simp only [List.getElem?_toArray, List.getElem?_cons_zero, List.getElem?_cons_succ] at d2 d4 d5
  clear f3 g3
  go_wp2_with fail
  with_reducible refine (HN2.out _ X3.out).mono ?_
  rintro e w4 ⟨rfl, f4⟩
  have X4 := Lib.hid (X3.out.fr0 f4)
  have F4 := Lib.hid (F3.out.trans f4.nil)
  have G4 := Lib.hid (G3.out.fr0 f4)
  clear f4
  go_wp2_with fail
  go_ret
  exact ⟨rfl, F4.out, HPS.out _ G4.out X4.out⟩
end
end Go.Proofs.YtmemoopkgjgmiaaGreatDoor
