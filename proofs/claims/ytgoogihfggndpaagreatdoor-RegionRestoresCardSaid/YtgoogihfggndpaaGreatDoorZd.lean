/- ref12: From. -/
import Derived.Test.YtgoogihfggndpaaGreatDoorZc
import Derived.Test.YtgoogihfggndpaaGreatDoorKT
import Derived.Test.YtgoogihfggndpaaGreatDoorX10b
import Derived.Test.YtgoogihfggndpaaGreatDoorOpen13
namespace Go.Proofs.YtgoogihfggndpaaGreatDoor
set_option linter.unusedVariables false
set_option linter.unusedSimpArgs false
open Go.RowKit

def F12 (w : World) (l : List Nat) (a s : Nat) (e : Ending) (w' : World) : Prop := Fr [] w w' ∧
  (((l.length = lsize a s ∧ (l.drop 8).take 12 = ((l12 a s).drop 8).take 12) ∧ ∃ m p pw bw, e = .returned (.tuple #[.pointer (some ⟨m, 0, none⟩), .int .i64 0]) ∧ Blk w' m 42 #[.int .i64 a, .int .i64 s, .pointer (some ⟨p, 0, none⟩), .pointer (some ⟨pw, 0, none⟩)] ∧ IsX w' pw bw (exp4 (newK a s)) 0 0 ∧ m ≠ bw ∧ ∀ k ∈ [m, pw, bw], w.heap.size ≤ k) ∨
   (¬ (l.length = lsize a s ∧ (l.drop 8).take 12 = ((l12 a s).drop 8).take 12) ∧ e = .returned (.tuple #[.pointer none, .int .i64 41])))
theorem from12_no {w : World} (a s : Int) (hc : ¬ CfZ a s) (v : Value) : Calls Tryz.prog 46 #[.agg #[.int .i64 a, .int .i64 s], v] w fun e w' => e = .returned (.tuple #[.pointer none, .int .i64 40]) ∧ Fr [] w w' := by
  have hr := fun W => m12_no (w := W) a s hc
  have F0 := Lib.hid ((Fr.refl [] w).alloc (.cells #[.int .i64 a, .int .i64 s] 23))
  clear hc
  go_enter Tryz.func46, Tryz.ntmps46
  go_wp2_with fail
  with_reducible refine (hr _).mono ?_
  rintro e w1 ⟨rfl, f1⟩
  go_wp2_with fail
  go_ret2
  exact ⟨rfl, F0.out.trans f1⟩
theorem l12_len (a s : Nat) : (l12 a s).length = lsize a s := by
  unfold l12
  simp [putL_len]
theorem byt_sub {w : World} {g o : Nat} {l : List Nat} (h : Byt w (some ⟨g, o, none⟩) l) (x m : Nat) (hE : x + m ≤ l.length) : Byt w (some ⟨g, o + x, none⟩) ((l.drop x).take m) := by
  refine ⟨fun i hi => ?_, fun b hm => h.byte b (List.mem_of_mem_drop (List.mem_of_mem_take hm)), by have := h.len; simp; omega⟩
  simp at hi
  obtain ⟨g', o', e, hc, hl⟩ := h.at_ (x + i) (by omega)
  injection e with e
  injection e with e1 e2
  subst e1 e2
  refine ⟨g, o + x, rfl, ?_, hl⟩
  rw [show o + x + i = o + (x + i) by omega, hc, List.getElem?_take_of_lt (by omega), List.getElem?_drop]
set_option maxRecDepth 100000 in
set_option maxHeartbeats 4000000 in
theorem from12_yes {w : World} (a s : Nat) (h : Cfg a s) (ad : Option Addr) (c : Nat) (l : List Nat) (hb : Byt w ad l) (hcap : l.length ≤ c) : Calls Tryz.prog 46 #[.agg #[.int .i64 a, .int .i64 s], .slice ad l.length c] w (F12 w l a s) := by
  have hn := fun W => m12_new (w := W) a s h
  unfold N12 at hn
  have hle := lsize_le a s h
  have hl4 := lsize_4 a s
  have hcs := cfg_sizes h
  have hlen := l12_len a s
  have F0 := Lib.hid ((Fr.refl [] w).alloc (.cells #[.int .i64 a, .int .i64 s] 23))
  have HB := Lib.hid hb
  obtain ⟨P, hP⟩ : ∃ P, F12 w l a s = P := ⟨_, rfl⟩
  rw [hP]
  have HP := Lib.hid hP.symm
  clear hP hb h
  have HLN := Lib.hid hlen
  by_cases hln : l.length = lsize a s
  · have h20 : 240 ≤ l.length := by omega
    obtain ⟨g1, o1, rfl, -, -⟩ := HB.out.at_ 0 (by omega)
    have HS1 := Lib.hid (fun W (hf : Fr [] w W) => (show (convert 24 9 (.slice (some ⟨g1, o1 + 8, none⟩) 12 (c - 8))).run Tryz.prog W = .ok (.string (strOf ((l.drop 8).take 12))) W from by
      have := conv_str W _ (c - 8) _ (byt_sub (HB.out.fr hf (by simp)) 8 12 (by omega))
      rw [show ((l.drop 8).take 12).length = 12 by simp; omega] at this
      exact this))
    have HS2 := Lib.hid (fun W g cap (hr : RowB W g cap (l12 a s)) (h256 : ∀ b ∈ l12 a s, b < 256) => (show (convert 24 9 (.slice (some ⟨g, 8, none⟩) 12 (cap - 8))).run Tryz.prog W = .ok (.string (strOf (((l12 a s).drop 8).take 12))) W from by
      have := conv_str W _ (cap - 8) _ (byt_sub (hr.byt h256 (by omega)) 8 12 (by omega))
      rw [show (((l12 a s).drop 8).take 12).length = 12 by simp; omega, show (0 + 8 : Nat) = 8 from rfl] at this
      exact this))
    obtain ⟨q, hq⟩ : ∃ q : Bool, (((l.drop 8).take 12) == (((l12 a s).drop 8).take 12)) = q := ⟨_, rfl⟩
    have HE5 := Lib.hid (fun (h256 : ∀ b ∈ l12 a s, b < 256) => (show ((strOf ((l.drop 8).take 12)).toList == (strOf (((l12 a s).drop 8).take 12)).toList) = q from by
      rw [← hq]
      exact strOf_eq _ _ (fun b hm => HB.out.byte b (List.mem_of_mem_drop (List.mem_of_mem_take hm))) (fun b hm => h256 b (List.mem_of_mem_drop (List.mem_of_mem_take hm)))))
    have HQ := Lib.hid hq
    have HLl := Lib.hid hln
    have hc8 : ¬ c = 8 := by omega
    have c20 : (20 : Int) ≤ c := by omega
    have c20' : 20 ≤ c := by omega
    clear hq hcs
    rw [hln]
    go_enter Tryz.func46, Tryz.ntmps46
    go_wp2_with fail
    with_reducible refine (hn _).mono ?_
    rintro e w1 ⟨m, p, pw, bw, B, rfl, hm, hB, hx, hw, n1, n2, n3, n4, n5, hk, f1⟩
    obtain ⟨-, ⟨g, cap, -, hp, hr⟩, h256, -⟩ := hx
    rw [hlen] at hp
    have F1 := Lib.hid (F0.out.trans f1)
    have K1 := HS2.out w1.drew g cap hr.drew h256
    have K2 := HS1.out w1.drew F1.out.drew
    have e5 := HE5.out h256
    have gcap := hr.le
    rw [hlen] at gcap
    have hg8 : ¬ cap = 8 := by omega
    have gc20 : (20 : Int) ≤ cap := by omega
    have gc20' : 20 ≤ cap := by omega
    have hY := And.intro (hm.drew.cell 2) (And.intro (hp.drew.cell 0) (And.intro K2 K1))
    simp only [List.getElem?_toArray, List.getElem?_cons_zero, List.getElem?_cons_succ] at hY
    have bl : (((lsize a s : Nat) : Int) != (lsize a s : Nat)) = false := by simp
    have HM1 := Lib.hid hm
    have HPb := Lib.hid hp
    have HW1 := Lib.hid hw
    have HK1 := Lib.hid hk
    clear hm hB hw hk f1 hp hr hlen K1 K2 hn h256 HE5 HS1 HS2 h20
    generalize strOf ((l.drop 8).take 12) = s1 at *
    generalize strOf (((l12 a s).drop 8).take 12) = s2 at *
    generalize hN : lsize a s = n at *
    have HNN := Lib.hid hN
    clear hN
    cases q with
    | true =>
      go_wp2_with fail
      refine wp_region_held_drew (S := fun W => W.cell? ⟨m, 2, none⟩ = some (.pointer (some ⟨p, 0, none⟩)) ∧ W.cell? ⟨p, 0, none⟩ = some (.slice (some ⟨g, 0, none⟩) n cap) ∧ (convert 24 9 (.slice (some ⟨g1, o1 + 8, none⟩) 12 (c - 8))).run Tryz.prog W = .ok (.string s1) W ∧ (convert 24 9 (.slice (some ⟨g, 8, none⟩) 12 (cap - 8))).run Tryz.prog W = .ok (.string s2) W) (by kernel_rfl) (hY) (fun yH => ?_)
      refine tkY 0 yH (h := ?_)
      refine tkY 1 yH (h := ?_)
      refine tkY 2 yH (h := ?_)
      refine tkY 3 yH (h := ?_)
      refine tkY 4 yH (h := ?_)
      refine tkY 5 yH (h := ?_)
      refine tkY 6 yH (h := ?_)
      refine tkY 7 yH (h := ?_)
      refine tkY 8 yH (h := ?_)
      refine tkY 9 yH (h := ?_)
      refine tkY 10 yH (h := ?_)
      refine tkY 11 yH (h := ?_)
      refine tkY 12 yH (h := ?_)
      refine tkY 13 yH (h := ?_)
      refine tkY 14 yH (h := ?_)
      refine tkY 15 yH (h := ?_)
      refine tkY 16 yH (h := ?_)
      refine tkY 17 yH (h := ?_)
      refine tkY 18 yH (h := ?_)
      refine tkY 19 yH (h := ?_)
      refine tkY 20 yH (h := ?_)
      refine tkY 21 yH (h := ?_)
      refine tkY 22 yH (h := ?_)
      refine tkY 23 yH (h := ?_)
      refine tkY 24 yH (h := ?_)
      refine tkY 25 yH (h := ?_)
      refine wpAnyH_done (by kernel_rfl) ?_ _
      have F2 := Lib.hid F1.out.drew.drew
      have hY2 := HM1.out.drew.drew.cell 2
      simp only [List.getElem?_toArray, List.getElem?_cons_zero, List.getElem?_cons_succ] at hY2
      have hO : OwnB (w1.drew.drew.alloc (.cells #[] 5)) w1.drew.drew.heap.size (.slice (some ⟨w1.drew.drew.heap.size, 0, none⟩) 0 0) [] := OwnB.made (Nat.le_refl _) (Blk.new w1.drew.drew _ _) (by simp)
      have hby := HB.out.fr (F2.out.alloc (.cells #[] 5)) (by simp)
      have hl5 : ([] : List Nat).length + l.length ≤ 1099511627776 := by rw [HLl.out]; simp; omega
      go_wp2_with fail
      refine wp_region_held_drew (S := fun W => W.cell? ⟨m, 2, none⟩ = some (.pointer (some ⟨p, 0, none⟩))) (by kernel_rfl) (hY2) (fun yH => ?_)
      refine tkY 0 yH (h := ?_)
      refine tkY 1 yH (h := ?_)
      refine tkY 2 yH (h := ?_)
      refine tkY 3 yH (h := ?_)
      refine tkY 5 yH (h := ?_)
      refine wpAnyH_ready (rs := [4]) (by kernel_rfl) (by simp) ?_
      refine AllReadyH.cons (o := ?oob5) ?hib5 (fun K hK => ?hcb5) AllReadyH.nil
      case hib5 => (simp only [List.getElem?_toArray, List.getElem?_cons_zero, List.getElem?_cons_succ]; rfl)
      go_simp
      refine hK.out _ _ ((HM1.out.drew.drew.alloc _).cell 2) (fun yH => ?_)
      clear hK K
      try simp only [Act.put, List.setIfInBounds_toArray, List.set_cons_zero, List.set_cons_succ]
      refine wpAnyH_ready (rs := [6]) (by kernel_rfl) (by simp) ?_
      refine AllReadyH.cons (o := ?oob6) ?hib6 (fun K hK => ?hcb6) AllReadyH.nil
      case hib6 => (simp only [List.getElem?_toArray, List.getElem?_cons_zero, List.getElem?_cons_succ]; rfl)
      refine wp_app (.tmp 41) (.tmp 42) rfl rfl w1.drew.drew.heap.size _ [] (by rfl) hO _ _ _ l HLl.out (by rfl) hby hl5 (by simp) ?_
      intro v1 W3 hO1 hgr1 hob1
      have f3 := hO.fr hgr1 ((Fr.refl [] w1.drew.drew).alloc (.cells #[] 5)) (Nat.le_refl _)
      have M3 := Lib.hid (HM1.out.drew.drew.fr f3 (by simp))
      have P3 := Lib.hid (HPb.out.drew.drew.fr f3 (by simp))
      have c3 := P3.out.cell 0
      have z3 := P3.out.frozen 0
      simp only [List.getElem?_toArray, List.getElem?_cons_zero, List.getElem?_cons_succ] at c3
      have hY3 := M3.out.cell 2
      have F3 := Lib.hid f3
      have hv1 : v1 ≠ .slice none 0 0 := by rintro rfl; rcases hob1 with h | h <;> cases h
      rw [List.nil_append] at hO1
      obtain ⟨g3, cap3, hu3, -, -⟩ := hO1.slice hv1
      rw [HLl.out] at hu3
      subst hu3
      clear f3 hO1 hgr1 hob1 hv1
      refine hK.out _ _ (hY3) (fun yH => ?_)
      clear hK K
      try simp only [Act.put, List.setIfInBounds_toArray, List.set_cons_zero, List.set_cons_succ]
      refine tkY 7 yH (h := ?_)
      refine tkY 8 yH (h := ?_)
      refine wpAnyH_ready (rs := [9]) (by kernel_rfl) (by simp) ?_
      refine AllReadyH.cons (o := ?oob9) ?hib9 (fun K hK => ?hcb9) AllReadyH.nil
      case hib9 => (simp only [List.getElem?_toArray, List.getElem?_cons_zero, List.getElem?_cons_succ]; rfl)
      go_simp
      refine hK.out _ _ ((M3.out.far (p := ⟨p, 0, none⟩) n3 _).cell 2) (fun yH => ?_)
      clear hK K
      try simp only [Act.put, List.setIfInBounds_toArray, List.set_cons_zero, List.set_cons_succ]
      refine wpAnyH_done (by kernel_rfl) ?_ _
      have F4 := Lib.hid (show Fr [p] w1 (W3.setCell ⟨p, 0, none⟩ (.slice (some ⟨g3, 0, none⟩) n cap3)) from ((Fr.refl [] w1).drew.drew.trans F3.out).nil.trans ((Fr.refl [p] W3).setCell (p := ⟨p, 0, none⟩) (.inl (by simp)) _))
      go_wp2_with fail
      rw [HP.out]
      refine ⟨F1.out.step F4.out (fun x hx => .inr ?_), .inl ⟨⟨HLl.out.trans HNN.out.symm, by simpa using HQ.out⟩, m, p, pw, bw, rfl, M3.out.far (p := ⟨p, 0, none⟩) n3 _, HW1.out.fr F4.out (by simp; exact n4) (by simp; exact n5), n1, fun x hx => ?_⟩⟩
      · have := HK1.out p (by simp)
        simp only [World.size_alloc] at this
        simp at hx
        omega
      · have := HK1.out x (by simp at hx ⊢; omega)
        simp only [World.size_alloc] at this
        omega
    | false =>
      go_wp2_with fail
      refine wp_region_held_drew (S := fun W => W.cell? ⟨m, 2, none⟩ = some (.pointer (some ⟨p, 0, none⟩)) ∧ W.cell? ⟨p, 0, none⟩ = some (.slice (some ⟨g, 0, none⟩) n cap) ∧ (convert 24 9 (.slice (some ⟨g1, o1 + 8, none⟩) 12 (c - 8))).run Tryz.prog W = .ok (.string s1) W ∧ (convert 24 9 (.slice (some ⟨g, 8, none⟩) 12 (cap - 8))).run Tryz.prog W = .ok (.string s2) W) (by kernel_rfl) (hY) (fun yH => ?_)
      refine tkY 0 yH (h := ?_)
      refine tkY 1 yH (h := ?_)
      refine tkY 2 yH (h := ?_)
      refine tkY 3 yH (h := ?_)
      refine tkY 4 yH (h := ?_)
      refine tkY 5 yH (h := ?_)
      refine tkY 6 yH (h := ?_)
      refine tkY 7 yH (h := ?_)
      refine tkY 8 yH (h := ?_)
      refine tkY 9 yH (h := ?_)
      refine tkY 10 yH (h := ?_)
      refine tkY 11 yH (h := ?_)
      refine tkY 12 yH (h := ?_)
      refine tkY 13 yH (h := ?_)
      refine tkY 14 yH (h := ?_)
      refine tkY 15 yH (h := ?_)
      refine tkY 16 yH (h := ?_)
      refine tkY 17 yH (h := ?_)
      refine tkY 18 yH (h := ?_)
      refine tkY 19 yH (h := ?_)
      refine tkY 20 yH (h := ?_)
      refine tkY 21 yH (h := ?_)
      refine tkY 22 yH (h := ?_)
      refine tkY 23 yH (h := ?_)
      refine tkY 24 yH (h := ?_)
      refine tkY 25 yH (h := ?_)
      refine wpAnyH_done (by kernel_rfl) ?_ _
      go_wp2_with fail
      rw [HP.out]
      refine ⟨F1.out.drew, .inr ⟨fun hh => ?_, rfl⟩⟩
      have := HQ.out
      rw [hh.2] at this
      simp at this
  · clear hcs
    go_enter Tryz.func46, Tryz.ntmps46
    go_wp2_with fail
    with_reducible refine (hn _).mono ?_
    rintro e w1 ⟨m, p, pw, bw, B, rfl, hm, hB, hx, hw, n1, n2, n3, n4, n5, hk, f1⟩
    obtain ⟨-, ⟨g, cap, -, hp, hr⟩, -⟩ := hx
    rw [hlen] at hp
    have F1 := Lib.hid (F0.out.trans f1)
    have d2 := hm.cell 2
    have d3 := hp.cell 0
    simp at d2 d3
    have bl : ((l.length : Int) != (lsize a s : Nat)) = true := by
      rw [bne, beq_eq_false_iff_ne.2 (by omega)]; rfl
    clear hm hB hw hk f1 hp hr hlen
    go_wp2_with fail
    go_quiet (fail)
    go_wp2_with fail
    rw [HP.out]
    exact ⟨F1.out.drewN _, .inr ⟨fun hh => hln hh.1, rfl⟩⟩
end Go.Proofs.YtgoogihfggndpaaGreatDoor
