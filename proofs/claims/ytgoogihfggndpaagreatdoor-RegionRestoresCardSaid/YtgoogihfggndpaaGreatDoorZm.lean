/- region.Map and region.Restore of an image whose slabs may not be; memory.Runs of any memory. -/
import Derived.Test.YtgoogihfggndpaaGreatDoorZi
import Derived.Test.YtgoogihfggndpaaGreatDoorKT
import Derived.Test.YtgoogihfggndpaaGreatDoorZl2
import Derived.Test.YtgoogihfggndpaaGreatDoorLD
import Derived.Test.YtgoogihfggndpaaGreatDoorGN
import Derived.Test.YtgoogihfggndpaaGreatDoorW11s
import Derived.Test.YtgoogihfggndpaaGreatDoorL11
namespace Go.Proofs.YtgoogihfggndpaaGreatDoor
set_option linter.unusedVariables false
set_option linter.unusedSimpArgs false
open Go.RowKit

section
variable {w : World} {q : MH} {z : MS}
theorem zmapM_no (hM : TabM w) (hE : ErrC w) (h : IsM w q z) (hm : mapM16 z.l z.a z.s = none) : Calls Tryz.prog 41 #[.pointer (some ⟨q.m, 0, none⟩)] w fun e w' => ∃ v, e = .returned (.tuple #[v, .int .i64 41]) ∧ Fr [] w w' := by
  have hcf := mconfig w q z h
  have HI := Lib.hid (fun W (hf : Fr [] w W) => (show Calls Tryz.prog 13 #[.pointer (some ⟨q.m, 0, none⟩)] W fun e w' => ∃ g cap, e = .returned (.slice (some ⟨g, 0, none⟩) z.l.length cap) ∧ W.heap.size ≤ g ∧ RowB w' g cap z.l ∧ Fr [] W w' from
    (mimage W q z (h.fr0 hf)).mono fun e w' ⟨v, he, g, cap, hv, k1, k2, k3⟩ => ⟨g, cap, by rw [he, hv], k1, k2, k3⟩))
  have HTab := Lib.hid (fun W (hf : Fr [] w W) => hM.fr hf (by simp))
  have HEr := Lib.hid (fun W (hf : Fr [] w W) x => zerrno (w := W) x (hE.fr hf (by simp)))
  have hbl : z.l.length = lsize z.a z.s := h.size
  have hby := h.ar.byte
  have hz := lsize_le z.a z.s h.cfg
  have hcfg := h.cfg
  have HM := Lib.hid (fun W (hM : TabM W) gi ci (himg : Byt W (some ⟨gi, 0, none⟩) z.l) (hg : gi < W.heap.size) (hci : z.l.length ≤ ci) => zmapped hM hcfg himg hg hbl hci)
  unfold MapP at HM
  rw [hm] at HM
  unfold cfgV at hcf HM
  have hEq := eq_cfg0 z.a z.s h.cfg.a1
  have HBy := Lib.hid (show ∀ W g cap, RowB W g cap z.l → Byt W (some ⟨g, 0, none⟩) z.l from fun W g cap hr => hr.byt hby (by omega))
  clear hm hbl hby hz h hM hcfg hE
  generalize z.l = im at *
  generalize z.a = a at *
  generalize z.s = s at *
  generalize hil : im.length = il at *
  have HIL := Lib.hid hil
  clear hil
  go_enter Tryz.func41, Tryz.ntmps41
  go_wp2_with fail
  with_reducible refine hcf.mono ?_
  rintro e w1 ⟨rfl, f1⟩
  have B1 := Lib.hid (Blk.new w1 23 #[.int .i64 a, .int .i64 s])
  have F1 := Lib.hid (f1.alloc (.cells #[.int .i64 a, .int .i64 s] 23))
  have f1s := f1.size
  clear f1 hcf
  go_wp2_with fail
  have hY : (w1.alloc (.cells #[.int .i64 a, .int .i64 s] 23)).drew.cell? ⟨w1.heap.size, 0, none⟩ = some (.int .i64 a) ∧ (w1.alloc (.cells #[.int .i64 a, .int .i64 s] 23)).drew.cell? ⟨w1.heap.size, 1, none⟩ = some (.int .i64 s) := ⟨B1.out.drew.cell 0, B1.out.drew.cell 1⟩
  refine wp_region_held_drew (S := fun W => W.cell? ⟨w1.heap.size, 0, none⟩ = some (.int .i64 a) ∧ W.cell? ⟨w1.heap.size, 1, none⟩ = some (.int .i64 s)) (by kernel_rfl) (hY) (fun yH => ?_)
  refine tkY 0 yH (h := ?_)
  refine tkY 1 yH (h := ?_)
  refine wpAnyH_ready (rs := [2]) (by kernel_rfl) (by simp) ?_
  refine AllReadyH.cons (o := ?ooa2) ?hia2 (fun K hK => ?hca2) AllReadyH.nil
  case hia2 => (simp only [List.getElem?_toArray, List.getElem?_cons_zero, List.getElem?_cons_succ]; rfl)
  go_simp
  with_reducible refine (HI.out _ F1.out.drew).mono ?_
  rintro e w2 ⟨gi, ci, rfl, hgi, hrow, f2⟩
  have hci : il ≤ ci := (by have := hrow.le; have := HIL.out; omega)
  have hgl := hrow.lt
  have HR := Lib.hid hrow
  have F2 := Lib.hid (F1.out.drew.trans f2)
  have B2 := Lib.hid (B1.out.drew.fr f2 (by simp))
  have hY := And.intro (B2.out.cell 0) (B2.out.cell 1)
  clear hrow f2
  go_wp2_with fail
  refine hK.out _ _ (hY) (fun yH => ?_)
  clear hK K
  try simp only [Act.put, List.setIfInBounds_toArray, List.set_cons_zero, List.set_cons_succ]
  refine wpAnyH_ready (rs := [3]) (by kernel_rfl) (by simp) ?_
  refine AllReadyH.cons (o := ?ooa3) ?hia3 (fun K hK => ?hca3) AllReadyH.nil
  case hia3 => (simp only [List.getElem?_toArray, List.getElem?_cons_zero, List.getElem?_cons_succ]; rfl)
  go_simp
  with_reducible refine (HM.out _ (HTab.out _ F2.out) gi ci (HBy.out _ _ _ HR.out) hgl hci).mono ?_
  rintro e w3 ⟨f3, ii, rfl⟩
  have F3 := Lib.hid (F2.out.trans f3)
  have B3 := Lib.hid (B2.out.fr f3 (by simp))
  have hY := And.intro (B3.out.cell 0) (B3.out.cell 1)
  clear f3
  go_wp2_with fail
  refine hK.out _ _ (hY) (fun yH => ?_)
  clear hK K
  try simp only [Act.put, List.setIfInBounds_toArray, List.set_cons_zero, List.set_cons_succ]
  refine tkY 4 yH (h := ?_)
  refine tkY 5 yH (h := ?_)
  refine tkY 6 yH (h := ?_)
  refine tkY 7 yH (h := ?_)
  refine tkY 8 yH (h := ?_)
  refine wpAnyH_done (by kernel_rfl) ?_ _
  go_wp2_with fail
  with_reducible refine (HEr.out _ F3.out _).mono ?_
  rintro e w4 ⟨rfl, f4⟩
  go_wp2_with fail
  go_ret2
  exact ⟨_, rfl, F3.out.trans f4⟩
set_option maxRecDepth 100000 in
theorem zrest_slab {w : World} (hM : TabM w) (hE : ErrC w) (a s : Nat) (hc : Cfg a s) (ad : Option Addr) (c : Nat) (l : List Nat) (hb : Byt w ad l) (hI : okI l a s) (hm : mapM16 l a s = none) :
    Calls Tryz.prog 10 #[.agg #[.int .i64 a, .int .i64 s], .slice ad l.length c] w fun e w' => e = .returned (.tuple #[.pointer none, .int .i64 41]) ∧ Fr [] w w' := by
  have F0 := Lib.hid ((Fr.refl [] w).alloc (.cells #[.int .i64 a, .int .i64 s] 23))
  have hfr := mfrom (hM.fr F0.out (by simp)) a s hc ad c l (hb.fr F0.out (by simp))
  unfold FromP at hfr
  have HMap := Lib.hid (fun W (hMW : TabM W) (hEW : ErrC W) q (h : IsM W q { a := a, s := s, ks := newK a s, l := l, ft := 0 }) => zmapM_no hMW hEW h hm)
  have HT := Lib.hid (fun W (hf : Fr [] w W) => hM.fr hf (by simp))
  have HEr := Lib.hid (fun W (hf : Fr [] w W) => hE.fr hf (by simp))
  have HI := Lib.hid hI
  clear hM hb hI hm hc hE
  generalize l.length = n at *
  go_enter Tryz.func10, Tryz.ntmps10
  go_wp2_with fail
  with_reducible refine hfr.mono ?_
  rintro e w1 ⟨f1, h1⟩
  obtain ⟨_, q, rfl, h1, hq⟩ := h1.resolve_right (fun h => h.1 HI.out)
  have F1 := Lib.hid (F0.out.trans f1)
  have hmp := HMap.out _ (HT.out _ F1.out) (HEr.out _ F1.out) q h1
  clear hfr f1 h1 hq
  go_wp2_with fail
  with_reducible refine hmp.mono ?_
  rintro e w2 ⟨v, rfl, f2⟩
  go_wp2_with fail
  go_ret2
  exact ⟨rfl, F1.out.trans f2⟩
theorem mrunsM (h : IsM w q z) : Calls Tryz.prog 15 #[.pointer (some ⟨q.m, 0, none⟩)] w fun e w' => ∃ v, e = .returned v ∧ OwnR w' w.heap.size v ((runs z.ks).map sc4) ∧ Fr [] w w' := by
  have hn := h.none
  have c0 := h.st.cell 0
  obtain ⟨lk, hw⟩ := h.wt
  have hf := Lib.hid (fun W hW => (callsIn_wide.1 (runs_in 4 (by omega) W q.pw q.bw z.ks lk z.ft hW)))
  simp at c0
  have HW := Lib.hid hw
  have hl := hw.st.lt
  have HR := Lib.hid (show ∀ W v base, W.ownsRow base 84 3 v (runs z.ks).length (runCells (runs z.ks)) → OwnR W base v ((runs z.ks).map sc4) from fun W v base ho => by
    unfold OwnR
    rw [List.length_map, rCells_sc4]
    exact ho)
  have hcf : ∀ W, IsW W q.pw q.bw z.ks lk z.ft → Calls Tryz.prog 56 #[.agg #[.pointer (some ⟨q.pw, 0, none⟩)]] W fun e w' => ∃ v, e = .returned v ∧ OwnR w' W.heap.size v ((runs z.ks).map sc4) ∧ Fr [] W w' := fun W hW => by
    have hfa := hf.out _ (hW.fr (S := []) ((Fr.refl _ _).alloc (.cells #[.pointer (some ⟨q.pw, 0, none⟩)] 99)) (by simp) (by simp))
    have HRW := Lib.hid (fun (w' : World) (v : Value) (ho : w'.ownsRow (W.alloc (.cells #[.pointer (some ⟨q.pw, 0, none⟩)] 99)).heap.size 84 3 v (runs z.ks).length (runCells (runs z.ks))) => ownR_base (base := W.heap.size) (by simp) (HR.out _ _ _ ho))
    clear hf hW HW
    go_enter Tryz.func56, Tryz.ntmps56
    go_wp2_with fail
    with_reducible refine hfa.mono ?_
    rintro e w' ⟨v, rfl, ho, f⟩
    have HO := Lib.hid (HRW.out _ _ ho)
    have HF := Lib.hid (((Fr.refl [] W).alloc (.cells #[.pointer (some ⟨q.pw, 0, none⟩)] 99)).trans f)
    clear ho f HRW hfa
    go_wp2_with fail
    go_ret
    exact ⟨_, rfl, HO.out, HF.out⟩
  have hcw := hcf w hw
  generalize z.ks = ks at *
  clear h hw hf
  go_enter Tryz.func15, Tryz.ntmps15
  go_wp2_with fail
  with_reducible refine hn.mono ?_
  rintro e w' ⟨rfl, rfl⟩
  go_wp2_with fail
  with_reducible refine hcw.mono ?_
  rintro e w1 ⟨v, rfl, ho, f⟩
  have HO := Lib.hid ho
  clear ho
  go_wp2_with fail
  go_ret
  exact ⟨_, rfl, HO.out, f⟩
theorem xruns_r {p b : Nat} {ks : List Nat} {lk ft : Int} (h : IsX w p b (exp4 ks) lk ft) : Calls Tryz.prog 16 #[.pointer (some ⟨p, 0, none⟩)] w fun e w' => ∃ v, e = .returned v ∧ OwnR w' w.heap.size v ((runs ks).map sc4) ∧ Fr [] w w' := by
  refine (xruns w p b _ lk ft h).mono fun e w' ⟨v, he, ho, hf⟩ => ⟨v, he, ?_, hf⟩
  rw [runs_exp] at ho
  exact ho
end
end Go.Proofs.YtgoogihfggndpaaGreatDoor
