/- Layer 14: ListsPlays. -/
import Derived.Test.YtcagljjbiodcoaaDoorLaw14q
import Derived.Test.YtcagljjbiodcoaaDoorGE
namespace Go.Proofs.YtcagljjbiodcoaaDoor
set_option linter.unusedVariables false
open Go.RowKit

theorem getV_form (a : Nat) (hh : HH) (inn : Nat → Int) (x : Int) : ∃ c l f n p : Int, getV a hh inn x = .agg #[.int .i64 c, .int .i64 l, .int .u32 f, .int .i64 n, .int .i64 p] := by
  unfold getV slabV
  split
  · exact ⟨_, _, _, _, _, rfl⟩
  · exact ⟨_, _, _, _, _, rfl⟩
theorem k14_start {w W : World} {q : MH} {p gh gi a s : Nat} (hi : IsT W q (newT a s)) (hr : IsR W p gh gi a (fun _ => (0, 0, 0)) (fun _ => 0)) (hf : Fr [] w W) (hq : ∀ k ∈ q.blocks, w.heap.size ≤ k) (hp : w.heap.size ≤ p) (hgh : w.heap.size ≤ gh) (hgi : w.heap.size ≤ gi)
    (hn : p ∉ q.blocks ∧ gh ∉ q.blocks ∧ gi ∉ q.blocks) (hg : 6 ≤ w.heap.size) : Calls Tryd.prog 32 #[.pointer (some ⟨q.m, 0, none⟩)] W fun e w' => e = .returned (.int .i64 0) ∧ K14 w q p a [] (fun _ => 0) (fun _ => (0, 0, 0)) (fun _ => 0) (fun _ => (0, 0, 0)) w' := by
  refine (libegin hi).mono fun e w' ⟨he, k1, k4⟩ => ⟨he, ?_⟩
  refine ⟨⟨_, gh, gi, k1, (beg_LS _ _ (Nat.le_refl _)).congr (fun x hx => ?_), beg_a _ _, (lis_beg _ _).ft, beg_hd, hr.fr k4 hn.1 hn.2.1 hn.2.2, hn, ⟨hgh, hgi⟩, fun b hb => by cases hb⟩, hf.step k4 (fun k hk => .inr (hq k hk)), hq, hp, hg, fun b hb => by cases hb⟩
  unfold innB
  rw [if_pos (by omega)]
/-- The two go together. -/
def KP (w0 : World) (q : MH) (p a : Nat) (W : World) : Prop := ∃ inn hh, K14 w0 q p a [] inn hh inn hh W
theorem ne_self (x : Int) : (x != x) = false := by simp
set_option maxRecDepth 100000 in
set_option maxHeartbeats 8000000 in
theorem walk_lplays (w : World) (hM : TabM w) (sl : Int) (a : Option Addr) (c : Nat) (l : List A14) (h : ActA14 w a c l) :
    Calls Tryd.prog 9 #[.int .i64 sl, .slice a l.length c] w fun e w' => e = .returned (.bool true) ∧ Fr [] w w' := by
  have HL := Lib.hid (fun W (hf : Fr [] w W) => lines14 W (hM.fr hf (by simp)))
  by_cases hgd : sl < 7 ∨ 64 < sl ∨ 60 < l.length
  · have hL := HL.out w (Fr.refl _ _)
    have hcc : decide (sl < 7) = true ∨ (decide (sl < 7) = false ∧ decide (64 < sl) = true) ∨ (decide (sl < 7) = false ∧ decide (64 < sl) = false ∧ decide ((60 : Int) < l.length) = true ∧ decide (60 < l.length) = true) := by
      simp only [decide_eq_true_eq, decide_eq_false_iff_not]
      omega
    clear hgd h
    generalize l.length = n at *
    rcases hcc with b1 | ⟨b1, b2⟩ | ⟨b1, b2, b3, b4⟩
    all_goals
      go_enter Tryd.func9, Tryd.ntmps9
      go_wp2_with fail
      with_reducible refine hL.mono ?_
      rintro e w1 ⟨rfl, f1⟩
      go_wp2_with fail
      go_ret
      exact ⟨rfl, f1⟩
  obtain ⟨m, rfl⟩ : ∃ m : Nat, sl = m := ⟨sl.toNat, by omega⟩
  have b1 : decide ((m : Int) < 7) = false := by simp; omega
  have b1' : decide (m < 7) = false := by simp; omega
  have b2 : decide ((64 : Int) < m) = false := by simp; omega
  have b2' : decide (64 < m) = false := by simp; omega
  have b3 : decide ((60 : Int) < l.length) = false := by simp; omega
  have b3' : decide (60 < l.length) = false := by simp; omega
  have w0 : IntKind.i64.wrap (32 * (m : Int)) = 32 * (m : Int) := IntWalk.i64_in _ (by omega)
  have hn := (show Calls Tryd.prog 17 #[.agg #[.int .i64 m, .int .i64 (32 * (m : Int))]] w (NewT w m (32 * m)) from by
    have := tnew w hM m (32 * m) ⟨by omega, by omega, by omega, by omega, by omega⟩
    unfold cfgV at this
    rw [Int.natCast_mul] at this
    exact this)
  have HRB := Lib.hid (fun W => r14begin W m (by omega) (by omega))
  have HA := Lib.hid h
  have hTS := hM.size
  generalize hnn : l.length = n at *
  have HN := Lib.hid hnn
  have hn60 : n ≤ 60 := by omega
  have hm64 : 7 ≤ m ∧ m ≤ 64 := by omega
  clear h hnn hM hgd
  go_enter Tryd.func9, Tryd.ntmps9
  go_wp2_with fail
  with_reducible refine hn.mono ?_
  rintro e w1 ⟨q, rfl, h1, hq, f1⟩
  clear hn
  go_wp2_with fail
  with_reducible refine (HRB.out _).mono ?_
  rintro e w2 ⟨p, gh, gi, rfl, r1, r2, r3, r4, r5⟩
  have HB := Lib.hid (k14_start (w := w) (h1.fr0 r5) r1 (f1.trans r5) hq (by have := f1.size; omega) (by have := f1.size; omega) (by have := f1.size; omega) ⟨fun hm => by have := h1.lt _ hm; omega, fun hm => by have := h1.lt _ hm; omega, fun hm => by have := h1.lt _ hm; omega⟩ hTS)
  clear h1 hq f1 r1 r2 r3 r4 r5 HRB hTS
  go_wp2_with fail
  with_reducible refine HB.out.mono ?_
  rintro e w3 ⟨rfl, h3⟩
  have H3 := Lib.hid (show KP w q p m w3 from ⟨_, _, h3⟩)
  clear HB h3
  go_wp2_with fail
  go_loopw [7] (fun v W => ∃ j : Nat, j ≤ n ∧ v = .int .i64 j ∧ KP w q p m W) (fun v _ => n - (intOf v).toNat)
  case atStart => exact ⟨0, by omega, rfl, H3.out⟩
  case round =>
    clear H3
    obtain ⟨j, hj, rfl, inn, hh, hS⟩ := hrel
    have HS := Lib.hid hS
    clear hS
    by_cases hlt : j < n
    · obtain ⟨B, off, rfl, hBl, hr⟩ := HA.out.row (by rw [HN.out]; omega)
      have hlt' : j < l.length := by rw [HN.out]; exact hlt
      have hrj := hr j hlt'
      have hyok := HA.out.each _ (List.getElem_mem hlt')
      have e0 := (HS.out.f.cell (p := ⟨B, off + j * 5, none⟩) hBl (by simp)).trans hrj.c0
      have e1 := (HS.out.f.cell (p := ⟨B, off + j * 5 + 1, none⟩) hBl (by simp)).trans hrj.c1
      have e2 := (HS.out.f.cell (p := ⟨B, off + j * 5 + 2, none⟩) hBl (by simp)).trans hrj.c2
      have e3 := (HS.out.f.cell (p := ⟨B, off + j * 5 + 3, none⟩) hBl (by simp)).trans hrj.c3
      have e4 := (HS.out.f.cell (p := ⟨B, off + j * 5 + 4, none⟩) hBl (by simp)).trans hrj.c4
      generalize l[j]'hlt' = y at *
      have HAC := Lib.hid (walk_act HS.out y hyok)
      unfold A14.cells at HAC
      obtain ⟨yk, yc, yx, yl, yf⟩ := y
      simp only at e0 e1 e2 e3 e4 HAC
      clear hr hrj hyok
      have hg2 : (0 : Int) ≤ j := by omega
      have hg3 : (j : Int) < n := by omega
      have w3 : IntKind.i64.wrap ((j : Int) + 1) = (j : Int) + 1 := IntWalk.i64_in _ (by omega)
      go_wp2_with fail
      with_reducible refine HAC.out.mono ?_
      rintro e w4 ⟨rfl, inn4, hh4, h4⟩
      have H4 := Lib.hid h4
      clear HAC h4 HS e0 e1 e2 e3 e4
      go_wp2_with fail
      go_loopw [8] (fun v W => ∃ x : Int, -1 ≤ x ∧ x ≤ m + 1 ∧ v = .int .i64 x ∧ K14 w q p m [] inn4 hh4 inn4 hh4 W) (fun v _ => ((m : Int) + 1 - intOf v).toNat)
      case atStart => exact ⟨-1, by omega, by omega, rfl, H4.out⟩
      case round =>
        clear H4
        obtain ⟨x, hx1, hx2, rfl, h5⟩ := hrel
        have H5 := Lib.hid h5
        clear h5
        by_cases hxm : x ≤ m
        · have b5 : decide (x ≤ m) = true := by simpa using hxm
          have hk := k_get H5.out x
          have hr := fun W h => r_get (W := W) (w0 := w) (q := q) (p := p) (a := m) (ex := []) (iT := inn4) (hT := hh4) (iR := inn4) (hR := hh4) h x
          obtain ⟨vc, vl, vf, vn, vp, hv⟩ := getV_form m hh4 inn4 x
          rw [hv] at hk hr
          have HR := Lib.hid hr
          have hEq := fun w => eq_slab vc vl vf vn vp w
          have hne := ne_self (getE m x)
          have w5 : IntKind.i64.wrap (x + 1) = x + 1 := IntWalk.i64_in _ (by omega)
          generalize getE m x = ge at *
          clear hv hr
          go_wp2_with fail
          with_reducible refine hk.mono ?_
          rintro e w6 ⟨rfl, h6⟩
          have H6 := Lib.hid h6
          clear h6 hk
          go_wp2_with fail
          with_reducible refine (HR.out _ (H6.out.alloc _)).mono ?_
          rintro e w7 ⟨rfl, h7, f7⟩
          have H7 := Lib.hid h7
          have B7 := fun o => ((Blk.new w6 70 #[.int .i64 vc, .int .i64 vl, .int .u32 vf, .int .i64 vn, .int .i64 vp]).fr f7 (by simp)).alloc o
          have d0 := fun o => (B7 o).cell 0
          have d1 := fun o => (B7 o).cell 1
          have d2 := fun o => (B7 o).cell 2
          have d3 := fun o => (B7 o).cell 3
          have d4 := fun o => (B7 o).cell 4
          simp at d0 d1 d2 d3 d4
          clear h7 f7 HR B7
          go_wp2_with fail
          go_roundw
          case rel => exact ⟨x + 1, by omega, by omega, rfl, H7.out.alloc _⟩
          case measure => simp [intOf]; omega
        · have b5 : decide (x ≤ m) = false := by simpa using hxm
          clear hxm hx1 hx2
          go_wp2_with fail
          go_loopw [13] (fun v W => ∃ x : Int, -1 ≤ x ∧ x ≤ 11 ∧ v = .int .i64 x ∧ K14 w q p m [] inn4 hh4 inn4 hh4 W) (fun v _ => (11 - intOf v).toNat)
          case atStart => exact ⟨-1, by omega, by omega, rfl, H5.out⟩
          case round =>
            clear H5 b5
            obtain ⟨x, hx1, hx2, rfl, h5⟩ := hrel
            have H5 := Lib.hid h5
            clear h5
            by_cases hxm : x ≤ 10
            · have b5 : decide (x ≤ 10) = true := by simpa using hxm
              have hne := ne_self (firstA m inn4 x)
              have hk := k_fst H5.out x
              have hr := Lib.hid (fun W h => r_fst (W := W) (w0 := w) (q := q) (p := p) (a := m) (ex := []) (iT := inn4) (hT := hh4) (iR := inn4) (hR := hh4) h x)
              have ka := Lib.hid (fun W h => k_all (W := W) (w0 := w) (q := q) (p := p) (a := m) (ex := []) (iT := inn4) (hT := hh4) (iR := inn4) (hR := hh4) h x)
              have ra := Lib.hid (fun W h => r_all (W := W) (w0 := w) (q := q) (p := p) (a := m) (ex := []) (iT := inn4) (hT := hh4) (iR := inn4) (hR := hh4) h x)
              have hll := Lib.hid (lstI_len m inn4 x)
              have w5 : IntKind.i64.wrap (x + 1) = x + 1 := IntWalk.i64_in _ (by omega)
              generalize firstA m inn4 x = fa at *
              generalize lstI m inn4 x = L at *
              go_wp2_with fail
              with_reducible refine hk.mono ?_
              rintro e w6 ⟨rfl, h6⟩
              clear hk
              have H6 := Lib.hid h6
              clear h6
              go_wp2_with fail
              with_reducible refine (hr.out _ H6.out).mono ?_
              rintro e w7 ⟨rfl, h7⟩
              have H7 := Lib.hid h7
              clear hr h7
              go_wp2_with fail
              with_reducible refine (ka.out _ H7.out).mono ?_
              rintro e w8 ⟨ad1, cap1, rfl, row1, h8⟩
              have H8 := Lib.hid h8
              have R1 := Lib.hid row1
              clear ka h8 row1
              go_wp2_with fail
              with_reducible refine (ra.out _ H8.out).mono ?_
              rintro e w9 ⟨ad2, cap2, rfl, row2, h9, f9⟩
              have hsm := Lib.hid (r14same (R1.out.fr f9 (by simp)) row2 (by have := hll.out; omega))
              have H9 := Lib.hid h9
              clear ra h9 f9 row2 R1
              go_wp2_with fail
              with_reducible refine hsm.out.mono ?_
              rintro e w10 ⟨rfl, f10⟩
              go_wp2_with fail
              go_roundw
              case rel => exact ⟨x + 1, by omega, by omega, rfl, H9.out.fr0 f10⟩
              case measure => simp [intOf]; omega
            · have b5 : decide (x ≤ 10) = false := by simpa using hxm
              clear hxm hx1 hx2
              go_wp2_with fail
              go_roundw
              case rel => exact ⟨j + 1, by omega, by go_num, _, _, H5.out⟩
              case measure => simp [intOf]; omega
    · have b4 : decide ((j : Int) < n) = false := by simp; omega
      have b4' : decide (j < n) = false := by simp; omega
      have hkf := k_flt HS.out
      clear hlt
      go_wp2_with fail
      with_reducible refine hkf.mono ?_
      rintro e w5 ⟨rfl, f5⟩
      have hL := HL.out _ f5
      go_wp2_with fail
      with_reducible refine hL.mono ?_
      rintro e w6 ⟨rfl, f6⟩
      go_wp2_with fail
      go_ret
      exact ⟨rfl, f5.trans f6⟩
end Go.Proofs.YtcagljjbiodcoaaDoor
