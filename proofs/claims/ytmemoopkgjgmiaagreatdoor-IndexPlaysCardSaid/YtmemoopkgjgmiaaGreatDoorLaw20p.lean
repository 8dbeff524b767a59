/- Layer 20: IndexPlays. -/
import Derived.Test.YtmemoopkgjgmiaaGreatDoorKL
import Derived.Test.YtmemoopkgjgmiaaGreatDoorKT
import Derived.Test.YtmemoopkgjgmiaaGreatDoorKK
import Derived.Test.YtmemoopkgjgmiaaGreatDoorKH
import Derived.BigQuiet
namespace Go.Proofs.YtmemoopkgjgmiaaGreatDoor
set_option linter.unusedVariables false
set_option linter.unusedSimpArgs false
open Go.RowKit

section
variable {w0 W W' w : World} {q : MH} {px base : Nat} {L : List RB} {b : RB}
theorem ps_same (c0 : PC w0 q base) (h : PS w0 q px base L W) : Calls Tryz.prog 30 #[.pointer (some ⟨q.m, 0, none⟩), .pointer (some ⟨px, 0, none⟩)] W fun e w' => e = .returned (.bool true) ∧ PS w0 q px base L w' := by
  obtain ⟨S, Ls, u, E, B, gt, ct, ad, cap, g, k, r⟩ := h
  exact (w_same g k c0.q).mono fun e w' ⟨k1, k2, k3⟩ => ⟨k1, S, Ls, u, E, B, gt, ct, ad, cap, k3, k.fr k2 c0.q, r⟩
theorem ps_nth (h : PS w0 q px base L W) (n : Int) : Calls Tryz.prog 19 #[.pointer (some ⟨px, 0, none⟩), .int .i64 n] W fun e w' => e = .returned (.tuple #[.agg #[.int .i64 (nthB L n).at_, .bool (nthB L n).nd, .int .u32 (nthB L n).nm, .int .u16 (nthB L n).ty, .string (strOf (nthB L n).lab), .int .u32 (nthB L n).hs], .bool (decide (0 < L.length))]) ∧ Fr [] W w' := by
  obtain ⟨S, Ls, u, E, B, gt, ct, ad, cap, g, k, r⟩ := h
  exact x_nth k n
theorem ps_flt (c0 : PC w0 q base) (h : PS w0 q px base L W) : Calls Tryz.prog 32 #[.pointer (some ⟨q.m, 0, none⟩)] W fun e w' => e = .returned (.int .i64 0) ∧ PS w0 q px base L w' := by
  obtain ⟨S, Ls, u, E, B, gt, ct, ad, cap, g, k, r⟩ := h
  exact (ix_flt g).mono fun e w' ⟨k1, k2, k3⟩ => ⟨k3, S, Ls, u, E, B, gt, ct, ad, cap, k2, k.fr k1 c0.q, r⟩
theorem PS.mem (h : PS w0 q px base L W) (hb : b ∈ L) : ∃ x : Nat, b.at_ = x ∧ b.Ok ∧ x < 1048576 := by
  obtain ⟨S, Ls, u, E, B, gt, ct, ad, cap, g, k, r⟩ := h
  obtain ⟨x, kx⟩ := r.i b hb
  exact ⟨x, kx.at_, kx.ok, (g.ne0 kx.l).2⟩
theorem PS.cellsN (h : PS w0 q px base L W) : ∃ ad cap, W.cell? ⟨px, 1, none⟩ = some (.slice ad L.length cap) ∧ ∀ p (hp : p < L.length), ∃ g, ad = some ⟨g, 0, none⟩ ∧ L.length ≤ cap ∧ W.cell? ⟨g, p * 6, none⟩ = some (.int .i64 L[p].at_) := by
  obtain ⟨S, Ls, u, E, B, gt, ct, ad, cap, g, k, r⟩ := h
  refine ⟨ad, cap, k.c1, fun p hp => ?_⟩
  obtain ⟨g', e, _, hr⟩ := k.row (by omega)
  exact ⟨g', e, hr.le, hr.cell p hp 0 (by decide)⟩
theorem nthB_mem {n : Int} (h : 0 < L.length) : nthB L n ∈ L := by
  have hlt := nthZ_lt n L.length h
  unfold nthB
  rw [List.getElem?_eq_getElem hlt]
  exact List.getElem_mem _
theorem nthB_ok (h : PS w0 q px base L W) (n : Int) : (nthB L n).Ok := by
  by_cases h0 : 0 < L.length
  · obtain ⟨x, _, k, _⟩ := h.mem (nthB_mem (n := n) h0)
    exact k
  · have : L = [] := List.eq_nil_of_length_eq_zero (by omega)
    subst this
    exact ⟨by show (-9223372036854775808 : Int) ≤ 0 ∧ (0 : Int) ≤ 9223372036854775807; omega, by show 0 < 4294967296; decide, by show 0 < 65536; decide, (fun x hx => nomatch hx), by show 0 ≤ 9223372036854775807; decide, by show 0 < 4294967296; decide⟩
theorem PS.start {S : SS} {u : TM} (c0 : PC w0 q base) (g : GI w0 q S (fun _ => False) u (fun _ => HB.zero) (fun _ => []) W) (h0 : u.sl = fun _ => 0) {gt : Nat} (hX : ∀ H, IsX W px base (fun _ => 0) H [] gt 224 none 0) : PS w0 q px base [] W :=
  ⟨S, _, u, _, _, gt, 224, none, 0, g, by rw [h0]; exact hX _, ⟨fun b hb => (nomatch hb), fun x hx => hx.elim, List.nodup_nil⟩⟩
/-- Nothing lies at x: all four refuse. -/
def Bad (w0 : World) (q : MH) (px base : Nat) (L : List RB) (x : Int) (P : World → Prop) : Prop :=
  (∀ V, P V → PS w0 q px base L V) ∧ (∀ V V', P V → Fr [] V V' → P V') ∧
  (∀ V, P V → Calls Tryz.prog 22 #[.pointer (some ⟨q.m, 0, none⟩), .int .i64 x] V fun e w' => e = .returned (.int .i64 30) ∧ Fr q.blocks V w' ∧ P w') ∧
  (∀ V, P V → Calls Tryz.prog 20 #[.pointer (some ⟨q.m, 0, none⟩), .int .i64 x] V fun e w' => e = .returned (.int .i64 30) ∧ Fr q.blocks V w' ∧ P w') ∧
  (∀ V, P V → Calls Tryz.prog 27 #[.pointer (some ⟨q.m, 0, none⟩), .int .i64 x] V fun e w' => e = .returned (.tuple #[.int .i64 0, .bool false]) ∧ Fr q.blocks V w' ∧ P w') ∧
  (∀ V, P V → Calls Tryz.prog 28 #[.pointer (some ⟨q.m, 0, none⟩), .int .i64 x, .int .i64 x] V fun e w' => e = .returned (.int .i64 30) ∧ Fr q.blocks V w' ∧ P w')
theorem ps_kind (c0 : PC w0 q base) (h : PS w0 q px base L W) (x : Int) : ∃ K : Nat, (∀ V, Fr [] W V → Calls Tryz.prog 26 #[.pointer (some ⟨q.m, 0, none⟩), .int .i64 x, .int .i64 4] V fun e w' => e = .returned (.int .i64 K) ∧ w' = V) ∧ ((K ≠ 5 ∧ (K ≠ 6 ∨ x % 16 = 0)) → ∃ P : World → Prop, P W ∧ Bad w0 q px base L x P) := by
  obtain ⟨S, Ls, u, E, B, gt, ct, ad, cap, g, k, r⟩ := h
  refine ⟨kindL u.kinds x 4, fun V hV => g_kind (g.fr0 hV) x, fun hn => ⟨fun V => GI w0 q S Ls u E B V ∧ IsX V px base u.sl (hmE u E) L gt ct ad cap, ⟨g, k⟩, fun V hV => ⟨S, Ls, u, E, B, gt, ct, ad, cap, hV.1, hV.2, r⟩, fun V V' hV hf => ⟨hV.1.fr0 hf, hV.2.fr0 hf⟩, ?_⟩⟩
  have hno : NoB u x := hn
  exact ⟨fun V hV => (g_bad hV.1 x hno).1.mono fun e w' ⟨h1, h2, h3⟩ => ⟨h1, h2, h3, hV.2.fr h2 c0.q⟩, fun V hV => (g_bad hV.1 x hno).2.1.mono fun e w' ⟨h1, h2, h3⟩ => ⟨h1, h2, h3, hV.2.fr h2 c0.q⟩,
    fun V hV => (g_bad hV.1 x hno).2.2.1.mono fun e w' ⟨h1, h2, h3⟩ => ⟨h1, h2, h3, hV.2.fr h2 c0.q⟩, fun V hV => (g_bad hV.1 x hno).2.2.2.mono fun e w' ⟨h1, h2, h3⟩ => ⟨h1, h2, h3, hV.2.fr h2 c0.q⟩⟩
set_option maxRecDepth 100000 in
set_option maxHeartbeats 40000000 in
theorem walk_iplays (w : World) (hM : TabM w) (hT : Tabs w) (a : Option Addr) (c : Nat) (l : List A20) (h : ActA20 w a c l) :
    Calls Tryz.prog 3 #[.slice a l.length c] w fun e w' => e = .returned (.bool true) ∧ Fr [] w w' := by
  have HL := Lib.hid (fun (W : World) (hf : Fr [] w W) => names20 W (hM.fr hf (by simp)) (hT.fr hf (by simp)))
  by_cases hgd : 120 < l.length
  · have b1 : decide ((120 : Int) < l.length) = true := by simp only [decide_eq_true_eq]; omega
    have b1' : decide (120 < l.length) = true := by simp only [decide_eq_true_eq]; omega
    have hL := HL.out _ (Fr.refl _ w)
    generalize l.length = n at *
    clear hgd h
    go_enter Tryz.func3, Tryz.ntmps3
    go_wp2_with fail
    with_reducible refine hL.mono ?_
    rintro e w1 ⟨rfl, f1⟩
    go_wp2_with fail
    go_ret
    exact ⟨rfl, f1⟩
  have b1 : decide ((120 : Int) < l.length) = false := by simp only [decide_eq_false_iff_not]; omega
  have b1' : decide (120 < l.length) = false := by simp only [decide_eq_false_iff_not]; omega
  have HA := Lib.hid h
  have hFW := few20 a c l h
  have HFR := Lib.hid (fun (W : World) (hf : Fr [] w W) => fresh20 W (hM.fr hf (by simp)) (hT.fr hf (by simp)))
  have HFL := Lib.hid (show fewL l = true → ∀ d ∈ l, d.b.few = true from fun hf d hd => by
    obtain ⟨i, hi, rfl⟩ := List.mem_iff_getElem.1 hd
    unfold fewL at hf
    rw [Bool.and_eq_true, List.all_eq_true] at hf
    exact hf.1 _ (List.mem_take_iff_getElem.2 ⟨i, by omega, rfl⟩))
  generalize hf1 : fewL l = f1 at *
  generalize hnn : l.length = n at *
  have HN := Lib.hid hnn
  have hn120 : n ≤ 120 := by omega
  clear hgd h hM hT hnn hf1
  go_enter Tryz.func3, Tryz.ntmps3
  go_wp2_with fail
  with_reducible refine hFW.mono ?_
  rintro e w1 ⟨rfl, g1⟩
  have F1 := Lib.hid g1
  clear g1 hFW
  cases f1 with
  | false =>
    have hL := HL.out _ F1.out
    clear HFR HFL HA
    go_wp2_with fail
    with_reducible refine hL.mono ?_
    rintro e w2 ⟨rfl, f2⟩
    go_wp2_with fail
    go_ret
    exact ⟨rfl, F1.out.trans f2⟩
  | true =>
  have HFEW := Lib.hid (show ∀ d ∈ l, d.b.few = true from HFL.out (by first | exact rfl | trivial))
  clear HFL
  go_wp2_with fail
  with_reducible refine (HFR.out _ F1.out).mono ?_
  rintro e w2 ⟨q, u0, rfl, g2, h0⟩
  have hnw := x_new20 w2
  have C0 := Lib.hid (show PC w1 q w2.heap.size from ⟨fun k hk => g2.h.m.lt k hk, g2.gx, g2.f.size⟩)
  have G2 := Lib.hid g2
  have HH0 := Lib.hid h0
  have FQ := Lib.hid (fun W (hW : Fr [] w1 W) => F1.out.trans hW)
  clear g2 h0 HFR
  go_wp2_with fail
  with_reducible refine hnw.mono ?_
  rintro e w3 ⟨px, gt, rfl, hX, f3⟩
  have START := Lib.hid (PS.start C0.out (G2.out.fr0 f3) HH0.out hX)
  have hpxb : w2.heap.size ≤ px := START.out.le_px
  have HPXB := Lib.hid hpxb
  clear hnw hX f3 G2 HH0
  go_wp2_with fail
  generalize hbs : w2.heap.size = base at *
  go_loopw [5] (fun v W => ∃ (j : Nat) (L : List RB), j ≤ n ∧ v = .int .i64 j ∧ L.length ≤ j ∧ PS w1 q px base L W) (fun v _ => n - (intOf v).toNat)
  case atStart => exact ⟨0, [], by omega, rfl, by simp, START.out⟩
  case round =>
    clear START
    obtain ⟨j, L, hj, rfl, hlen, hK⟩ := hrel
    have HK := Lib.hid hK
    by_cases hlt : j < n
    · have b1 : decide ((j : Int) < n) = true := by simp; omega
      have b1' : decide (j < n) = true := by simp; omega
      have w3 : IntKind.i64.wrap ((j : Int) + 1) = (j : Int) + 1 := IntWalk.i64_in _ (by omega)
      obtain ⟨B, off, rfl, hBl, hr⟩ := HA.out.row (by rw [HN.out]; omega)
      have hlt' : j < l.length := by rw [HN.out]; exact hlt
      have hrj := hr j hlt'
      have hok := HA.out.each _ (List.getElem_mem hlt')
      have hfew := HFEW.out _ (List.getElem_mem hlt')
      have FW := FQ.out _ hK.f
      generalize l[j]'hlt' = y at *
      obtain ⟨yk, yn, ⟨ya, yd, ym, yt, yl, yh⟩⟩ := y
      have cY0 := (FW.cell (p := ⟨B, off + j * 8 + 0, none⟩) hBl (by simp)).trans (hrj 0 (by decide))
      have cY1 := (FW.cell (p := ⟨B, off + j * 8 + 1, none⟩) hBl (by simp)).trans (hrj 1 (by decide))
      have cY2 := (FW.cell (p := ⟨B, off + j * 8 + 2, none⟩) hBl (by simp)).trans (hrj 2 (by decide))
      have cY3 := (FW.cell (p := ⟨B, off + j * 8 + 3, none⟩) hBl (by simp)).trans (hrj 3 (by decide))
      have cY4 := (FW.cell (p := ⟨B, off + j * 8 + 4, none⟩) hBl (by simp)).trans (hrj 4 (by decide))
      have cY5 := (FW.cell (p := ⟨B, off + j * 8 + 5, none⟩) hBl (by simp)).trans (hrj 5 (by decide))
      have cY6 := (FW.cell (p := ⟨B, off + j * 8 + 6, none⟩) hBl (by simp)).trans (hrj 6 (by decide))
      have cY7 := (FW.cell (p := ⟨B, off + j * 8 + 7, none⟩) hBl (by simp)).trans (hrj 7 (by decide))
      simp only [A20.cells, List.getElem?_cons_zero, List.getElem?_cons_succ, Nat.add_zero] at cY0 cY1 cY2 cY3 cY4 cY5 cY6 cY7
      have hg2 : (0 : Int) ≤ j := by omega
      have hg3 : (j : Int) < n := by omega
      have OKB := Lib.hid hok.b
      have HFE := Lib.hid hfew
      have f0 := (Fr.refl [] wr).alloc (.cells #[.int .i64 yk, .int .i64 yn, .int .i64 ya, .bool yd, .int .u32 ym, .int .u16 yt, .string (strOf yl), .int .u32 yh] 35)
      have K0 := Lib.hid (hK.fr0 f0)
      have Y0 := Lib.hid (Blk.new wr 35 #[.int .i64 yk, .int .i64 yn, .int .i64 ya, .bool yd, .int .u32 ym, .int .u16 yt, .string (strOf yl), .int .u32 yh])
      have hnth := ps_nth K0.out yn
      have HBO := Lib.hid (nthB_ok K0.out yn)
      have HBI := Lib.hid (fun h0 => nthB_mem (L := L) (n := yn) h0)
      clear hr hrj FW HFEW HA hK hok hfew f0 HK
      generalize nthB L yn = b at *
      obtain ⟨ba, bd, bm, bt, bl, bh⟩ := b
      simp only at hnth
      go_wp2_with fail
      with_reducible refine hnth.mono ?_
      rintro e w4 ⟨rfl, f4⟩
      have K4 := Lib.hid (K0.out.fr0 (f4.alloc (.cells #[.int .i64 ba, .bool bd, .int .u32 bm, .int .u16 bt, .string (strOf bl), .int .u32 bh] 33)))
      have Y4 := Lib.hid (Y0.out.fr (f4.alloc (.cells #[.int .i64 ba, .bool bd, .int .u32 bm, .int .u16 bt, .string (strOf bl), .int .u32 bh] 33)) (by simp))
      have B4 := Lib.hid (Blk.new w4 33 #[.int .i64 ba, .bool bd, .int .u32 bm, .int .u16 bt, .string (strOf bl), .int .u32 bh])
      have hyb : wr.heap.size < w4.heap.size := Nat.lt_of_lt_of_le Y0.out.lt f4.size
      have hpy : px < wr.heap.size ∧ base ≤ wr.heap.size := by
        obtain ⟨S, Ls, u, E, B, gt, ct, ad, cap, g, k, r⟩ := K0.out
        have e : px ≠ wr.heap.size := k.st.ne_ Y0.out (by decide)
        have := k.st.lt
        have := HPXB.out
        rw [World.size_alloc] at *
        omega
      obtain ⟨hpy1, hpy2⟩ := hpy
      clear hnth f4 K0 Y0
      have d0 := Y4.out.cell 0
      have d1 := Y4.out.cell 1
      have d2 := Y4.out.cell 2
      have d3 := Y4.out.cell 3
      have d4 := Y4.out.cell 4
      have d5 := Y4.out.cell 5
      have d6 := Y4.out.cell 6
      have d7 := Y4.out.cell 7
      have k0 := B4.out.cell 0
      have k1 := B4.out.cell 1
      have k2 := B4.out.cell 2
      have k3 := B4.out.cell 3
      have k4 := B4.out.cell 4
      have k5 := B4.out.cell 5
      simp only [List.getElem?_toArray, List.getElem?_cons_zero, List.getElem?_cons_succ] at d2 d3 d4 d5 d6 d7 k0 k1 k2 k3 k4 k5
      have hyq : wr.heap.size ∉ q.blocks := fun hm => by have := C0.out.q _ hm; omega
      have hbq : w4.heap.size ∉ q.blocks := fun hm => by have := C0.out.q _ hm; omega
      have hlen2 : L.length ≤ 1000 := by omega
      generalize hgy : wr.heap.size = gy at *
      by_cases hk23 : yk = 2 ∨ yk = 3
      · have hpgb : w4.heap.size ∉ [px] := by simp; omega
        clear d1 d2 d3 d4 d5 d6 d7 k1 k2 k3 k4 k5
        rcases hk23 with rfl | rfl
        · by_cases h0 : 0 < L.length
          · obtain ⟨x0, hx0, _, _⟩ := K4.out.mem (HBI.out h0)
            simp only at hx0
            subst hx0
            have b7 : decide (0 < L.length) = true := decide_eq_true h0
            have HM := Lib.hid (ps_del C0.out (K4.out.fr0 (Fr.refl [] _).drew) (HBI.out h0) x0 rfl)
            go_wp2_with fail
            have hY := k0
            refine wp_region_held_drew (S := fun W => W.cell? ⟨w4.heap.size, 0, none⟩ = some (.int .i64 x0)) (by kernel_rfl) (hY) (fun yH => ?_)
            refine tkY 0 yH (h := ?_)
            refine tkY 1 yH (h := ?_)
            refine tkY 2 yH (h := ?_)
            refine tkY 3 yH (h := ?_)
            refine tkY 4 yH (h := ?_)
            refine tkY 5 yH (h := ?_)
            refine tkY 7 yH (h := ?_)
            refine tkY 8 yH (h := ?_)
            refine tkY 9 yH (h := ?_)
            refine wpAnyH_ready (rs := [6]) (by kernel_rfl) (by simp) ?_
            refine AllReadyH.cons (o := ?oopa9) ?hipa9 (fun K hK => ?hcpa9) AllReadyH.nil
            case hipa9 => (simp only [List.getElem?_toArray, List.getElem?_cons_zero, List.getElem?_cons_succ]; rfl)
            go_simp
            with_reducible refine HM.out.mono ?_
            rintro e w5 ⟨rc, rfl, f5, h5⟩
            have HX5 := Lib.hid h5
            have B5 := Lib.hid (B4.out.drew.fr f5 hbq)
            have hY := (show w5.cell? ⟨w4.heap.size, 0, none⟩ = some (.int .i64 x0) from B5.out.cell 0)
            have b8 : ((rc : Int) == rc) = true := beq_self_eq_true _
            clear h5 f5
            go_wp2_with fail
            refine hK.out _ _ (hY) (fun yH => ?_)
            clear hK K
            try simp only [Act.put, List.setIfInBounds_toArray, List.set_cons_zero, List.set_cons_succ]
            refine wpAnyH_ready (rs := [10]) (by kernel_rfl) (by simp) ?_
            refine AllReadyH.cons (o := ?oopa10) ?hipa10 (fun K hK => ?hcpa10) AllReadyH.nil
            case hipa10 => (simp only [List.getElem?_toArray, List.getElem?_cons_zero, List.getElem?_cons_succ]; rfl)
            go_simp
            with_reducible refine (HX5.out _ (Fr.refl _ _)).mono ?_
            rintro e w6 ⟨rfl, f6, h6⟩
            have P6 := Lib.hid h6
            have hY := (show w6.cell? ⟨w4.heap.size, 0, none⟩ = some (.int .i64 x0) from (B5.out.fr f6 hpgb).cell 0)
            clear h6 f6
            go_wp2_with fail
            refine hK.out _ _ (hY) (fun yH => ?_)
            clear hK K
            try simp only [Act.put, List.setIfInBounds_toArray, List.set_cons_zero, List.set_cons_succ]
            refine tkY 11 yH (h := ?_)
            refine tkY 12 yH (h := ?_)
            refine tkY 13 yH (h := ?_)
            refine wpAnyH_done (by kernel_rfl) ?_ _
            try simp only [Act.put, List.getElem_toArray, List.getElem_cons_zero, List.getElem_cons_succ, List.setIfInBounds_toArray, List.set_cons_zero, List.set_cons_succ]
            (try clear HL; try clear HN; try clear OKB; try clear HFE; try clear HBO; try clear HBI; try clear FQ; try clear HPXB; try clear hpy1; try clear hpy2; try clear hyq; try clear hbq; try clear hlen2; try clear cY0; try clear cY1; try clear cY2; try clear cY3; try clear cY4; try clear cY5; try clear cY6; try clear cY7; try clear d2; try clear d3; try clear d4; try clear d5; try clear d6; try clear d7; try clear k0; try clear k1; try clear k2; try clear k3; try clear k4; try clear k5; try clear hyb; try clear hBl; try clear B4; try clear Y4; try clear Y5; try clear Y6; try clear Y7; try clear HI8; try clear HD8; try clear HM8; try clear BP; try clear hpgb; try clear HM; try clear HX5; try clear B5; try clear hY)
            as_aux_lemma =>
              have hsm := ps_same C0.out P6.out
              go_wp2_with fail
              with_reducible refine hsm.mono ?_
              rintro e wz ⟨rfl, hz⟩
              have PZ := Lib.hid hz
              clear hsm hz
              go_wp2_with fail
              go_roundw
              case rel => exact ⟨j + 1, L, by omega, by go_num, by omega, PZ.out⟩
              case measure => simp [intOf]; omega
          · have b7 : decide (0 < L.length) = false := decide_eq_false h0
            go_wp2_with fail
            go_quiet (fail)
            (try clear HL; try clear HN; try clear OKB; try clear HFE; try clear HBO; try clear HBI; try clear FQ; try clear HPXB; try clear hpy1; try clear hpy2; try clear hyq; try clear hbq; try clear hlen2; try clear cY0; try clear cY1; try clear cY2; try clear cY3; try clear cY4; try clear cY5; try clear cY6; try clear cY7; try clear d2; try clear d3; try clear d4; try clear d5; try clear d6; try clear d7; try clear k0; try clear k1; try clear k2; try clear k3; try clear k4; try clear k5; try clear hyb; try clear hBl; try clear B4; try clear Y4; try clear Y5; try clear Y6; try clear Y7; try clear HI8; try clear HD8; try clear HM8; try clear BP; try clear hpgb; try clear HM; try clear HX5; try clear B5; try clear hY)
            as_aux_lemma =>
              have hsm := ps_same C0.out (K4.out.fr0 ((Fr.refl [] _).drewN nq))
              go_wp2_with fail
              with_reducible refine hsm.mono ?_
              rintro e wz ⟨rfl, hz⟩
              have PZ := Lib.hid hz
              clear hsm hz
              go_wp2_with fail
              go_roundw
              case rel => exact ⟨j + 1, L, by omega, by go_num, by omega, PZ.out⟩
              case measure => simp [intOf]; omega
        · by_cases h0 : 0 < L.length
          · obtain ⟨x0, hx0, _, _⟩ := K4.out.mem (HBI.out h0)
            simp only at hx0
            subst hx0
            have b7 : decide (0 < L.length) = true := decide_eq_true h0
            have HM := Lib.hid (ps_del C0.out (K4.out.fr0 (Fr.refl [] _).drew) (HBI.out h0) x0 rfl)
            go_wp2_with fail
            have hY := k0
            refine wp_region_held_drew (S := fun W => W.cell? ⟨w4.heap.size, 0, none⟩ = some (.int .i64 x0)) (by kernel_rfl) (hY) (fun yH => ?_)
            refine tkY 0 yH (h := ?_)
            refine tkY 1 yH (h := ?_)
            refine tkY 2 yH (h := ?_)
            refine tkY 3 yH (h := ?_)
            refine tkY 4 yH (h := ?_)
            refine tkY 5 yH (h := ?_)
            refine tkY 7 yH (h := ?_)
            refine tkY 8 yH (h := ?_)
            refine tkY 9 yH (h := ?_)
            refine wpAnyH_ready (rs := [6]) (by kernel_rfl) (by simp) ?_
            refine AllReadyH.cons (o := ?oopc9) ?hipc9 (fun K hK => ?hcpc9) AllReadyH.nil
            case hipc9 => (simp only [List.getElem?_toArray, List.getElem?_cons_zero, List.getElem?_cons_succ]; rfl)
            go_simp
            with_reducible refine HM.out.mono ?_
            rintro e w5 ⟨rc, rfl, f5, h5⟩
            have HX5 := Lib.hid h5
            have B5 := Lib.hid (B4.out.drew.fr f5 hbq)
            have hY := (show w5.cell? ⟨w4.heap.size, 0, none⟩ = some (.int .i64 x0) from B5.out.cell 0)
            have b8 : ((rc : Int) == rc) = true := beq_self_eq_true _
            clear h5 f5
            go_wp2_with fail
            refine hK.out _ _ (hY) (fun yH => ?_)
            clear hK K
            try simp only [Act.put, List.setIfInBounds_toArray, List.set_cons_zero, List.set_cons_succ]
            refine wpAnyH_ready (rs := [10]) (by kernel_rfl) (by simp) ?_
            refine AllReadyH.cons (o := ?oopc10) ?hipc10 (fun K hK => ?hcpc10) AllReadyH.nil
            case hipc10 => (simp only [List.getElem?_toArray, List.getElem?_cons_zero, List.getElem?_cons_succ]; rfl)
            go_simp
            with_reducible refine (HX5.out _ (Fr.refl _ _)).mono ?_
            rintro e w6 ⟨rfl, f6, h6⟩
            have P6 := Lib.hid h6
            have hY := (show w6.cell? ⟨w4.heap.size, 0, none⟩ = some (.int .i64 x0) from (B5.out.fr f6 hpgb).cell 0)
            clear h6 f6
            go_wp2_with fail
            refine hK.out _ _ (hY) (fun yH => ?_)
            clear hK K
            try simp only [Act.put, List.setIfInBounds_toArray, List.set_cons_zero, List.set_cons_succ]
            refine tkY 11 yH (h := ?_)
            refine tkY 12 yH (h := ?_)
            refine tkY 13 yH (h := ?_)
            refine wpAnyH_done (by kernel_rfl) ?_ _
            try simp only [Act.put, List.getElem_toArray, List.getElem_cons_zero, List.getElem_cons_succ, List.setIfInBounds_toArray, List.set_cons_zero, List.set_cons_succ]
            (try clear HL; try clear HN; try clear OKB; try clear HFE; try clear HBO; try clear HBI; try clear FQ; try clear HPXB; try clear hpy1; try clear hpy2; try clear hyq; try clear hbq; try clear hlen2; try clear cY0; try clear cY1; try clear cY2; try clear cY3; try clear cY4; try clear cY5; try clear cY6; try clear cY7; try clear d2; try clear d3; try clear d4; try clear d5; try clear d6; try clear d7; try clear k0; try clear k1; try clear k2; try clear k3; try clear k4; try clear k5; try clear hyb; try clear hBl; try clear B4; try clear Y4; try clear Y5; try clear Y6; try clear Y7; try clear HI8; try clear HD8; try clear HM8; try clear BP; try clear hpgb; try clear HM; try clear HX5; try clear B5; try clear hY)
            as_aux_lemma =>
              have hsm := ps_same C0.out P6.out
              go_wp2_with fail
              with_reducible refine hsm.mono ?_
              rintro e wz ⟨rfl, hz⟩
              have PZ := Lib.hid hz
              clear hsm hz
              go_wp2_with fail
              go_roundw
              case rel => exact ⟨j + 1, L, by omega, by go_num, by omega, PZ.out⟩
              case measure => simp [intOf]; omega
          · have b7 : decide (0 < L.length) = false := decide_eq_false h0
            go_wp2_with fail
            go_quiet (fail)
            (try clear HL; try clear HN; try clear OKB; try clear HFE; try clear HBO; try clear HBI; try clear FQ; try clear HPXB; try clear hpy1; try clear hpy2; try clear hyq; try clear hbq; try clear hlen2; try clear cY0; try clear cY1; try clear cY2; try clear cY3; try clear cY4; try clear cY5; try clear cY6; try clear cY7; try clear d2; try clear d3; try clear d4; try clear d5; try clear d6; try clear d7; try clear k0; try clear k1; try clear k2; try clear k3; try clear k4; try clear k5; try clear hyb; try clear hBl; try clear B4; try clear Y4; try clear Y5; try clear Y6; try clear Y7; try clear HI8; try clear HD8; try clear HM8; try clear BP; try clear hpgb; try clear HM; try clear HX5; try clear B5; try clear hY)
            as_aux_lemma =>
              have hsm := ps_same C0.out (K4.out.fr0 ((Fr.refl [] _).drewN nq))
              go_wp2_with fail
              with_reducible refine hsm.mono ?_
              rintro e wz ⟨rfl, hz⟩
              have PZ := Lib.hid hz
              clear hsm hz
              go_wp2_with fail
              go_roundw
              case rel => exact ⟨j + 1, L, by omega, by go_num, by omega, PZ.out⟩
              case measure => simp [intOf]; omega
      by_cases hk4 : yk = 4
      · have hpgb : w4.heap.size ∉ [px] := by simp; omega
        clear d1 d2 d3 d4 d5 d6 d7 k1 k2 k3 k4 k5
        subst hk4
        by_cases h0 : 0 < L.length
        · obtain ⟨x0, hx0, _, _⟩ := K4.out.mem (HBI.out h0)
          simp only at hx0
          subst hx0
          have b7 : decide (0 < L.length) = true := decide_eq_true h0
          have HM := Lib.hid (ps_ins C0.out (K4.out.fr0 (Fr.refl [] _).drew) (HBI.out h0) x0 rfl)
          go_wp2_with fail
          have hY := k0
          refine wp_region_held_drew (S := fun W => W.cell? ⟨w4.heap.size, 0, none⟩ = some (.int .i64 x0)) (by kernel_rfl) (hY) (fun yH => ?_)
          refine tkY 0 yH (h := ?_)
          refine tkY 1 yH (h := ?_)
          refine tkY 2 yH (h := ?_)
          refine tkY 3 yH (h := ?_)
          refine tkY 4 yH (h := ?_)
          refine tkY 5 yH (h := ?_)
          refine tkY 7 yH (h := ?_)
          refine tkY 8 yH (h := ?_)
          refine tkY 9 yH (h := ?_)
          refine wpAnyH_ready (rs := [6]) (by kernel_rfl) (by simp) ?_
          refine AllReadyH.cons (o := ?oopb9) ?hipb9 (fun K hK => ?hcpb9) AllReadyH.nil
          case hipb9 => (simp only [List.getElem?_toArray, List.getElem?_cons_zero, List.getElem?_cons_succ]; rfl)
          go_simp
          with_reducible refine HM.out.mono ?_
          rintro e w5 ⟨rc, rfl, f5, h5⟩
          have HX5 := Lib.hid h5
          have B5 := Lib.hid (B4.out.drew.fr f5 hbq)
          have hY := (show w5.cell? ⟨w4.heap.size, 0, none⟩ = some (.int .i64 x0) from B5.out.cell 0)
          have b8 : ((rc : Int) == rc) = true := beq_self_eq_true _
          clear h5 f5
          go_wp2_with fail
          refine hK.out _ _ (hY) (fun yH => ?_)
          clear hK K
          try simp only [Act.put, List.setIfInBounds_toArray, List.set_cons_zero, List.set_cons_succ]
          refine wpAnyH_ready (rs := [10]) (by kernel_rfl) (by simp) ?_
          refine AllReadyH.cons (o := ?oopb10) ?hipb10 (fun K hK => ?hcpb10) AllReadyH.nil
          case hipb10 => (simp only [List.getElem?_toArray, List.getElem?_cons_zero, List.getElem?_cons_succ]; rfl)
          go_simp
          with_reducible refine (HX5.out _ (Fr.refl _ _)).mono ?_
          rintro e w6 ⟨rfl, f6, h6⟩
          have P6 := Lib.hid h6
          have hY := (show w6.cell? ⟨w4.heap.size, 0, none⟩ = some (.int .i64 x0) from (B5.out.fr f6 hpgb).cell 0)
          clear h6 f6
          go_wp2_with fail
          refine hK.out _ _ (hY) (fun yH => ?_)
          clear hK K
          try simp only [Act.put, List.setIfInBounds_toArray, List.set_cons_zero, List.set_cons_succ]
          refine tkY 11 yH (h := ?_)
          refine tkY 12 yH (h := ?_)
          refine tkY 13 yH (h := ?_)
          refine wpAnyH_done (by kernel_rfl) ?_ _
          try simp only [Act.put, List.getElem_toArray, List.getElem_cons_zero, List.getElem_cons_succ, List.setIfInBounds_toArray, List.set_cons_zero, List.set_cons_succ]
          (try clear HL; try clear HN; try clear OKB; try clear HFE; try clear HBO; try clear HBI; try clear FQ; try clear HPXB; try clear hpy1; try clear hpy2; try clear hyq; try clear hbq; try clear hlen2; try clear cY0; try clear cY1; try clear cY2; try clear cY3; try clear cY4; try clear cY5; try clear cY6; try clear cY7; try clear d2; try clear d3; try clear d4; try clear d5; try clear d6; try clear d7; try clear k0; try clear k1; try clear k2; try clear k3; try clear k4; try clear k5; try clear hyb; try clear hBl; try clear B4; try clear Y4; try clear Y5; try clear Y6; try clear Y7; try clear HI8; try clear HD8; try clear HM8; try clear BP; try clear hpgb; try clear HM; try clear HX5; try clear B5; try clear hY)
          as_aux_lemma =>
            have hsm := ps_same C0.out P6.out
            go_wp2_with fail
            with_reducible refine hsm.mono ?_
            rintro e wz ⟨rfl, hz⟩
            have PZ := Lib.hid hz
            clear hsm hz
            go_wp2_with fail
            go_roundw
            case rel => exact ⟨j + 1, L, by omega, by go_num, by omega, PZ.out⟩
            case measure => simp [intOf]; omega
        · have b7 : decide (0 < L.length) = false := decide_eq_false h0
          go_wp2_with fail
          go_quiet (fail)
          (try clear HL; try clear HN; try clear OKB; try clear HFE; try clear HBO; try clear HBI; try clear FQ; try clear HPXB; try clear hpy1; try clear hpy2; try clear hyq; try clear hbq; try clear hlen2; try clear cY0; try clear cY1; try clear cY2; try clear cY3; try clear cY4; try clear cY5; try clear cY6; try clear cY7; try clear d2; try clear d3; try clear d4; try clear d5; try clear d6; try clear d7; try clear k0; try clear k1; try clear k2; try clear k3; try clear k4; try clear k5; try clear hyb; try clear hBl; try clear B4; try clear Y4; try clear Y5; try clear Y6; try clear Y7; try clear HI8; try clear HD8; try clear HM8; try clear BP; try clear hpgb; try clear HM; try clear HX5; try clear B5; try clear hY)
          as_aux_lemma =>
            have hsm := ps_same C0.out (K4.out.fr0 ((Fr.refl [] _).drewN nq))
            go_wp2_with fail
            with_reducible refine hsm.mono ?_
            rintro e wz ⟨rfl, hz⟩
            have PZ := Lib.hid hz
            clear hsm hz
            go_wp2_with fail
            go_roundw
            case rel => exact ⟨j + 1, L, by omega, by go_num, by omega, PZ.out⟩
            case measure => simp [intOf]; omega
      by_cases hk5 : yk = 5
      · subst hk5
        clear d1 d2 d3 d4 d5 d6 d7
        by_cases h0 : 0 < L.length
        · have b7 : decide (0 < L.length) = true := decide_eq_true h0
          have hmv := w_moved C0.out K4.out (HBI.out h0) hlen2
          simp only at hmv
          go_wp2_with fail
          with_reducible refine hmv.mono ?_
          rintro e w5 ⟨rfl, L', hl', h5⟩
          have P5 := Lib.hid h5
          clear hmv h5 k0 k1 k2 k3 k4 k5
          (try clear HL; try clear HN; try clear OKB; try clear HFE; try clear HBO; try clear HBI; try clear FQ; try clear HPXB; try clear hpy1; try clear hpy2; try clear hyq; try clear hbq; try clear hlen2; try clear cY0; try clear cY1; try clear cY2; try clear cY3; try clear cY4; try clear cY5; try clear cY6; try clear cY7; try clear d2; try clear d3; try clear d4; try clear d5; try clear d6; try clear d7; try clear k0; try clear k1; try clear k2; try clear k3; try clear k4; try clear k5; try clear hyb; try clear hBl; try clear B4; try clear Y4; try clear Y5; try clear Y6; try clear Y7; try clear HI8; try clear HD8; try clear HM8; try clear BP; try clear hpgb; try clear HM; try clear HX5; try clear B5; try clear hY)
          as_aux_lemma =>
            have hsm := ps_same C0.out P5.out
            go_wp2_with fail
            with_reducible refine hsm.mono ?_
            rintro e wz ⟨rfl, hz⟩
            have PZ := Lib.hid hz
            clear hsm hz
            go_wp2_with fail
            go_roundw
            case rel => exact ⟨j + 1, L', by omega, by go_num, by omega, PZ.out⟩
            case measure => simp [intOf]; omega
        · have b7 : decide (0 < L.length) = false := decide_eq_false h0
          clear k0 k1 k2 k3 k4 k5
          (try clear HL; try clear HN; try clear OKB; try clear HFE; try clear HBO; try clear HBI; try clear FQ; try clear HPXB; try clear hpy1; try clear hpy2; try clear hyq; try clear hbq; try clear hlen2; try clear cY0; try clear cY1; try clear cY2; try clear cY3; try clear cY4; try clear cY5; try clear cY6; try clear cY7; try clear d2; try clear d3; try clear d4; try clear d5; try clear d6; try clear d7; try clear k0; try clear k1; try clear k2; try clear k3; try clear k4; try clear k5; try clear hyb; try clear hBl; try clear B4; try clear Y4; try clear Y5; try clear Y6; try clear Y7; try clear HI8; try clear HD8; try clear HM8; try clear BP; try clear hpgb; try clear HM; try clear HX5; try clear B5; try clear hY)
          as_aux_lemma =>
            have hsm := ps_same C0.out K4.out
            go_wp2_with fail
            with_reducible refine hsm.mono ?_
            rintro e wz ⟨rfl, hz⟩
            have PZ := Lib.hid hz
            clear hsm hz
            go_wp2_with fail
            go_roundw
            case rel => exact ⟨j + 1, L, by omega, by go_num, by omega, PZ.out⟩
            case measure => simp [intOf]; omega
      by_cases hk67 : yk = 6 ∨ yk = 7
      · have hlk := ps_looked C0.out K4.out ⟨ba, bd, bm, bt, bl, bh⟩ HBO.out
        simp only at hlk
        clear d1 d2 d3 d4 d5 d6 d7
        rcases hk67 with rfl | rfl
        all_goals
          go_wp2_with fail
          with_reducible refine hlk.mono ?_
          rintro e w5 ⟨rfl, f5, h5⟩
          have Y5 := Y4.out.fr f5 hyq
          have d2 := Y5.cell 2
          have d3 := Y5.cell 3
          have d4 := Y5.cell 4
          have d5 := Y5.cell 5
          have d6 := Y5.cell 6
          have d7 := Y5.cell 7
          simp only [List.getElem?_toArray, List.getElem?_cons_zero, List.getElem?_cons_succ] at d2 d3 d4 d5 d6 d7
          have hlk2 := ps_looked C0.out h5 ⟨ya, yd, ym, yt, yl, yh⟩ OKB.out
          simp only at hlk2
          clear h5 f5 Y5 hlk k0 k1 k2 k3 k4 k5
          go_wp2_with fail
          with_reducible refine hlk2.mono ?_
          rintro e w6 ⟨rfl, f6, h6⟩
          have P6 := Lib.hid h6
          clear hlk2 h6 f6 d2 d3 d4 d5 d6 d7
          (try clear HL; try clear HN; try clear OKB; try clear HFE; try clear HBO; try clear HBI; try clear FQ; try clear HPXB; try clear hpy1; try clear hpy2; try clear hyq; try clear hbq; try clear hlen2; try clear cY0; try clear cY1; try clear cY2; try clear cY3; try clear cY4; try clear cY5; try clear cY6; try clear cY7; try clear d2; try clear d3; try clear d4; try clear d5; try clear d6; try clear d7; try clear k0; try clear k1; try clear k2; try clear k3; try clear k4; try clear k5; try clear hyb; try clear hBl; try clear B4; try clear Y4; try clear Y5; try clear Y6; try clear Y7; try clear HI8; try clear HD8; try clear HM8; try clear BP; try clear hpgb; try clear HM; try clear HX5; try clear B5; try clear hY)
          as_aux_lemma =>
            have hsm := ps_same C0.out P6.out
            go_wp2_with fail
            with_reducible refine hsm.mono ?_
            rintro e wz ⟨rfl, hz⟩
            have PZ := Lib.hid hz
            clear hsm hz
            go_wp2_with fail
            go_roundw
            case rel => exact ⟨j + 1, L, by omega, by go_num, by omega, PZ.out⟩
            case measure => simp [intOf]; omega
      by_cases hk8 : yk = 8
      · subst hk8
        clear d2 d3 d4 d5 d6 d7
        obtain ⟨K, hkd, hbad⟩ := ps_kind C0.out K4.out yn
        have hkd0 := hkd _ (Fr.refl _ _)
        have wt : IntKind.i64.wrap (yn.tmod 16) = yn.tmod 16 := IntWalk.i64_in _ (by have := Int.tmod_lt_of_pos yn (show (0 : Int) < 16 by decide); have := Int.lt_tmod_of_pos yn (show (0 : Int) < 16 by decide); omega)
        have ht16 : yn.tmod 16 = 0 ↔ yn % 16 = 0 := by rw [← Int.dvd_iff_tmod_eq_zero, ← Int.dvd_iff_emod_eq_zero]
        clear hkd
        by_cases e5 : K = 5
        · have x1 : ((K : Int) != 5) = false := by rw [e5]; rfl
          have x1' : (K != 5) = false := by rw [e5]; rfl
          clear hbad ht16
          subst e5
          go_wp2_with fail
          with_reducible refine hkd0.mono ?_
          rintro e w5 ⟨rfl, rfl⟩
          clear hkd0 k0 k1 k2 k3 k4 k5
          (try clear HL; try clear HN; try clear OKB; try clear HFE; try clear HBO; try clear HBI; try clear FQ; try clear HPXB; try clear hpy1; try clear hpy2; try clear hyq; try clear hbq; try clear hlen2; try clear cY0; try clear cY1; try clear cY2; try clear cY3; try clear cY4; try clear cY5; try clear cY6; try clear cY7; try clear d2; try clear d3; try clear d4; try clear d5; try clear d6; try clear d7; try clear k0; try clear k1; try clear k2; try clear k3; try clear k4; try clear k5; try clear hyb; try clear hBl; try clear B4; try clear Y4; try clear Y5; try clear Y6; try clear Y7; try clear HI8; try clear HD8; try clear HM8; try clear BP; try clear hpgb; try clear HM; try clear HX5; try clear B5; try clear hY)
          as_aux_lemma =>
            have hsm := ps_same C0.out K4.out
            go_wp2_with fail
            with_reducible refine hsm.mono ?_
            rintro e wz ⟨rfl, hz⟩
            have PZ := Lib.hid hz
            clear hsm hz
            go_wp2_with fail
            go_roundw
            case rel => exact ⟨j + 1, L, by omega, by go_num, by omega, PZ.out⟩
            case measure => simp [intOf]; omega
        have x1 : ((K : Int) != 5) = true := by simp; omega
        have x1' : (K != 5) = true := by simp; omega
        by_cases e6 : K = 6
        · have x2 : ((K : Int) != 6) = false := by rw [e6]; rfl
          have x2' : (K != 6) = false := by rw [e6]; rfl
          by_cases e7 : yn % 16 = 0
          · have x3 : (yn.tmod 16 == 0) = true := by rw [beq_iff_eq]; exact ht16.2 e7
            go_wp2_with fail
            with_reducible refine hkd0.mono ?_
            rintro e w5 ⟨rfl, rfl⟩
            clear hkd0
            obtain ⟨Pp, hP, B1, B2, hI, hD, hPl, hMv⟩ := hbad ⟨e5, .inr e7⟩
            have BP := Lib.hid B1
            have HI8 := Lib.hid hI
            have HD8 := Lib.hid hD
            have HM8 := Lib.hid hMv
            have hpl := hPl _ hP
            clear hbad hP B1 B2 hI hD hMv hPl
            go_wp2_with fail
            with_reducible refine hpl.mono ?_
            rintro e w5 ⟨rfl, f5, p5⟩
            have P5 := Lib.hid p5
            have Y5 := Lib.hid (Y4.out.fr f5 hyq)
            have d1 := Y5.out.cell 1
            simp only [List.getElem?_toArray, List.getElem?_cons_zero, List.getElem?_cons_succ] at d1
            clear hpl f5 p5 k0 k1 k2 k3 k4 k5
            go_wp2_with fail
            with_reducible refine (HI8.out _ P5.out).mono ?_
            rintro e w6 ⟨rfl, f6, p6⟩
            have P6 := Lib.hid p6
            have Y6 := Lib.hid (Y5.out.fr f6 hyq)
            have d1 := Y6.out.cell 1
            simp only [List.getElem?_toArray, List.getElem?_cons_zero, List.getElem?_cons_succ] at d1
            clear f6 p6
            go_wp2_with fail
            with_reducible refine (HD8.out _ P6.out).mono ?_
            rintro e w7 ⟨rfl, f7, p7⟩
            have P7 := Lib.hid p7
            have Y7 := Lib.hid (Y6.out.fr f7 hyq)
            have d1 := Y7.out.cell 1
            simp only [List.getElem?_toArray, List.getElem?_cons_zero, List.getElem?_cons_succ] at d1
            clear f7 p7
            go_wp2_with fail
            with_reducible refine (HM8.out _ P7.out).mono ?_
            rintro e w8 ⟨rfl, f8, p8⟩
            have P8 := Lib.hid (BP.out _ p8)
            clear f8 p8 d1
            (try clear HL; try clear HN; try clear OKB; try clear HFE; try clear HBO; try clear HBI; try clear FQ; try clear HPXB; try clear hpy1; try clear hpy2; try clear hyq; try clear hbq; try clear hlen2; try clear cY0; try clear cY1; try clear cY2; try clear cY3; try clear cY4; try clear cY5; try clear cY6; try clear cY7; try clear d2; try clear d3; try clear d4; try clear d5; try clear d6; try clear d7; try clear k0; try clear k1; try clear k2; try clear k3; try clear k4; try clear k5; try clear hyb; try clear hBl; try clear B4; try clear Y4; try clear Y5; try clear Y6; try clear Y7; try clear HI8; try clear HD8; try clear HM8; try clear BP; try clear hpgb; try clear HM; try clear HX5; try clear B5; try clear hY)
            as_aux_lemma =>
              have hsm := ps_same C0.out P8.out
              go_wp2_with fail
              with_reducible refine hsm.mono ?_
              rintro e wz ⟨rfl, hz⟩
              have PZ := Lib.hid hz
              clear hsm hz
              go_wp2_with fail
              go_roundw
              case rel => exact ⟨j + 1, L, by omega, by go_num, by omega, PZ.out⟩
              case measure => simp [intOf]; omega
          · have x3 : (yn.tmod 16 == 0) = false := by rw [beq_eq_false_iff_ne]; exact fun h => e7 (ht16.1 h)
            clear hbad
            go_wp2_with fail
            with_reducible refine hkd0.mono ?_
            rintro e w5 ⟨rfl, rfl⟩
            clear hkd0 k0 k1 k2 k3 k4 k5
            (try clear HL; try clear HN; try clear OKB; try clear HFE; try clear HBO; try clear HBI; try clear FQ; try clear HPXB; try clear hpy1; try clear hpy2; try clear hyq; try clear hbq; try clear hlen2; try clear cY0; try clear cY1; try clear cY2; try clear cY3; try clear cY4; try clear cY5; try clear cY6; try clear cY7; try clear d2; try clear d3; try clear d4; try clear d5; try clear d6; try clear d7; try clear k0; try clear k1; try clear k2; try clear k3; try clear k4; try clear k5; try clear hyb; try clear hBl; try clear B4; try clear Y4; try clear Y5; try clear Y6; try clear Y7; try clear HI8; try clear HD8; try clear HM8; try clear BP; try clear hpgb; try clear HM; try clear HX5; try clear B5; try clear hY)
            as_aux_lemma =>
              have hsm := ps_same C0.out K4.out
              go_wp2_with fail
              with_reducible refine hsm.mono ?_
              rintro e wz ⟨rfl, hz⟩
              have PZ := Lib.hid hz
              clear hsm hz
              go_wp2_with fail
              go_roundw
              case rel => exact ⟨j + 1, L, by omega, by go_num, by omega, PZ.out⟩
              case measure => simp [intOf]; omega
        · have x2 : ((K : Int) != 6) = true := by simp; omega
          have x2' : (K != 6) = true := by simp; omega
          go_wp2_with fail
          with_reducible refine hkd0.mono ?_
          rintro e w5 ⟨rfl, rfl⟩
          clear hkd0
          obtain ⟨Pp, hP, B1, B2, hI, hD, hPl, hMv⟩ := hbad ⟨e5, .inl e6⟩
          have BP := Lib.hid B1
          have HI8 := Lib.hid hI
          have HD8 := Lib.hid hD
          have HM8 := Lib.hid hMv
          have hpl := hPl _ hP
          clear hbad hP B1 B2 hI hD hMv hPl
          go_wp2_with fail
          with_reducible refine hpl.mono ?_
          rintro e w5 ⟨rfl, f5, p5⟩
          have P5 := Lib.hid p5
          have Y5 := Lib.hid (Y4.out.fr f5 hyq)
          have d1 := Y5.out.cell 1
          simp only [List.getElem?_toArray, List.getElem?_cons_zero, List.getElem?_cons_succ] at d1
          clear hpl f5 p5 k0 k1 k2 k3 k4 k5
          go_wp2_with fail
          with_reducible refine (HI8.out _ P5.out).mono ?_
          rintro e w6 ⟨rfl, f6, p6⟩
          have P6 := Lib.hid p6
          have Y6 := Lib.hid (Y5.out.fr f6 hyq)
          have d1 := Y6.out.cell 1
          simp only [List.getElem?_toArray, List.getElem?_cons_zero, List.getElem?_cons_succ] at d1
          clear f6 p6
          go_wp2_with fail
          with_reducible refine (HD8.out _ P6.out).mono ?_
          rintro e w7 ⟨rfl, f7, p7⟩
          have P7 := Lib.hid p7
          have Y7 := Lib.hid (Y6.out.fr f7 hyq)
          have d1 := Y7.out.cell 1
          simp only [List.getElem?_toArray, List.getElem?_cons_zero, List.getElem?_cons_succ] at d1
          clear f7 p7
          go_wp2_with fail
          with_reducible refine (HM8.out _ P7.out).mono ?_
          rintro e w8 ⟨rfl, f8, p8⟩
          have P8 := Lib.hid (BP.out _ p8)
          clear f8 p8 d1
          (try clear HL; try clear HN; try clear OKB; try clear HFE; try clear HBO; try clear HBI; try clear FQ; try clear HPXB; try clear hpy1; try clear hpy2; try clear hyq; try clear hbq; try clear hlen2; try clear cY0; try clear cY1; try clear cY2; try clear cY3; try clear cY4; try clear cY5; try clear cY6; try clear cY7; try clear d2; try clear d3; try clear d4; try clear d5; try clear d6; try clear d7; try clear k0; try clear k1; try clear k2; try clear k3; try clear k4; try clear k5; try clear hyb; try clear hBl; try clear B4; try clear Y4; try clear Y5; try clear Y6; try clear Y7; try clear HI8; try clear HD8; try clear HM8; try clear BP; try clear hpgb; try clear HM; try clear HX5; try clear B5; try clear hY)
          as_aux_lemma =>
            have hsm := ps_same C0.out P8.out
            go_wp2_with fail
            with_reducible refine hsm.mono ?_
            rintro e wz ⟨rfl, hz⟩
            have PZ := Lib.hid hz
            clear hsm hz
            go_wp2_with fail
            go_roundw
            case rel => exact ⟨j + 1, L, by omega, by go_num, by omega, PZ.out⟩
            case measure => simp [intOf]; omega
      have t2 : (yk == 2) = false := by rw [beq_eq_false_iff_ne]; omega
      have t3 : (yk == 3) = false := by rw [beq_eq_false_iff_ne]; omega
      have t4 : (yk == 4) = false := by rw [beq_eq_false_iff_ne]; omega
      have t5 : (yk == 5) = false := by rw [beq_eq_false_iff_ne]; omega
      have t6 : (yk == 6) = false := by rw [beq_eq_false_iff_ne]; omega
      have t7 : (yk == 7) = false := by rw [beq_eq_false_iff_ne]; omega
      have t8 : (yk == 8) = false := by rw [beq_eq_false_iff_ne]; omega
      clear hk23 hk4 hk5 hk67 hk8
      obtain ⟨ad, cap, hA⟩ := K4.out.psa
      have hblk := ps_blk C0.out hA ya yd ym yt yl yh OKB.out HFE.out
      have HOL := Lib.hid (show ∀ k ∈ ownS (.slice ad L.length cap), k < (w4.alloc (.cells #[.int .i64 ba, .bool bd, .int .u32 bm, .int .u16 bt, .string (strOf bl), .int .u32 bh] 33)).heap.size from fun k hk => (hA.row.1.lt k (ownS_mem hk)).2)
      have hsz4 : w4.heap.size < (w4.alloc (.cells #[.int .i64 ba, .bool bd, .int .u32 bm, .int .u16 bt, .string (strOf bl), .int .u32 bh] 33)).heap.size := B4.out.lt
      clear hA d1 k0 k1 k2 k3 k4 k5
      go_wp2_with fail
      with_reducible refine hblk.mono ?_
      rintro e w5 ⟨x, rfl, f5, hxm, hc⟩
      have hs5 := f5.size
      have f6 := (Fr.refl [] w5).alloc (.cells #[.int .i64 x, .bool yd, .int .u32 ym, .int .u16 yt, .string (strOf yl), .int .u32 yh] 33)
      have N6 := Lib.hid (Blk.new w5 33 #[.int .i64 x, .bool yd, .int .u32 ym, .int .u16 yt, .string (strOf yl), .int .u32 yh])
      clear hblk f5 d0 d2 d3 d4 d5 d6 d7
      rcases hc with ⟨rfl, h5⟩ | ⟨hx, h5⟩
      · have b5 : decide ((0 : Int) < ((0 : Nat) : Int)) = false := rfl
        have H6 := Lib.hid (show PS w1 q px base L (w5.alloc (.cells #[.int .i64 0, .bool yd, .int .u32 ym, .int .u16 yt, .string (strOf yl), .int .u32 yh] 33)) from (h5.fr0 f6).ps)
        clear h5 f6
        (try clear HL; try clear HN; try clear OKB; try clear HFE; try clear HBO; try clear HBI; try clear FQ; try clear HPXB; try clear hpy1; try clear hpy2; try clear hyq; try clear hbq; try clear hlen2; try clear cY0; try clear cY1; try clear cY2; try clear cY3; try clear cY4; try clear cY5; try clear cY6; try clear cY7; try clear d2; try clear d3; try clear d4; try clear d5; try clear d6; try clear d7; try clear k0; try clear k1; try clear k2; try clear k3; try clear k4; try clear k5; try clear hyb; try clear hBl; try clear B4; try clear Y4; try clear Y5; try clear Y6; try clear Y7; try clear HI8; try clear HD8; try clear HM8; try clear BP; try clear hpgb; try clear HM; try clear HX5; try clear B5; try clear hY)
        as_aux_lemma =>
          have hsm := ps_same C0.out H6.out
          go_wp2_with fail
          with_reducible refine hsm.mono ?_
          rintro e wz ⟨rfl, hz⟩
          have PZ := Lib.hid hz
          clear hsm hz
          go_wp2_with fail
          go_roundw
          case rel => exact ⟨j + 1, L, by omega, by go_num, by omega, PZ.out⟩
          case measure => simp [intOf]; omega
      · have b5 : decide ((0 : Int) < (x : Int)) = true := by simp; omega
        have b5' : decide (0 < x) = true := by simp; omega
        have H6 := Lib.hid (h5.fr0 f6)
        have hnl : w5.heap.size < (w5.alloc (.cells #[.int .i64 x, .bool yd, .int .u32 ym, .int .u16 yt, .string (strOf yl), .int .u32 yh] 33)).heap.size := N6.out.lt
        have hpg : px < w5.heap.size ∧ base ≤ w5.heap.size := by omega
        obtain ⟨hpg1, hpg2⟩ := hpg
        have hw6 : base ≤ (w5.alloc (.cells #[.int .i64 x, .bool yd, .int .u32 ym, .int .u16 yt, .string (strOf yl), .int .u32 yh] 33)).heap.size := by omega
        have hgn3 : w5.heap.size ∉ ownS (.slice ad L.length cap) := fun hm => by have := HOL.out _ hm; omega
        clear h5 f6
        go_wp2_with fail
        generalize hgn : w5.heap.size = gn at *
        generalize w5.alloc (.cells #[.int .i64 x, .bool yd, .int .u32 ym, .int .u16 yt, .string (strOf yl), .int .u32 yh] 33) = w6 at *
        obtain ⟨hrow2, hc2, _, _, _⟩ := H6.out.row
        obtain ⟨v3, w7, hrun, hr3, hf3⟩ := app_runB hrow2 ⟨x, yd, ym, yt, yl, yh⟩ (by omega) hw6
        obtain ⟨ad3, cap3, ev3, _⟩ := hr3.row
        subst ev3
        obtain ⟨hPT, hzf, hzc⟩ := H6.out.app C0.out hr3 hf3 (by omega)
        have hle : (L ++ [(⟨x, yd, ym, yt, yl, yh⟩ : RB)]).length = L.length + 1 := by simp
        have HRUN := Lib.hid hrun
        rw [hle] at hPT
        have PT3 := Lib.hid hPT
        have N7 := Lib.hid ((N6.out.fr hf3 hgn3).fr ((Fr.refl [px] w7).setCell (p := ⟨px, 1, none⟩) (.inl (by simp)) (.slice ad3 (L.length + 1) cap3)) (by simp; omega))
        have m0 := N6.out.cell 0
        have m1 := N6.out.cell 1
        have m2 := N6.out.cell 2
        have m3 := N6.out.cell 3
        have m4 := N6.out.cell 4
        have m5 := N6.out.cell 5
        simp only [List.getElem?_toArray, List.getElem?_cons_zero, List.getElem?_cons_succ] at m0 m1 m2 m3 m4 m5
        have hc2a := (H6.out.fr0 ((Fr.refl [] w6).alloc (.cells #[.int .i64 x, .bool yd, .int .u32 ym, .int .u16 yt, .string (strOf yl), .int .u32 yh] 33))).row.2.1
        clear hrun hr3 hf3 hPT hrow2 hgn3 HOL hnl H6 N6 B4 Y4 K4
        apply cutG
        · intro key
          go_region_law (refine step_app rfl (.tmp 60) (.tmp 62) 47 rfl rfl _ _ _ _ (by simp [Act.eval, Act.put]) (by simp [Act.eval, Act.put]) HRUN.out ?_)
          all_goals exact key
        · clear m0 m1 m2 m3 m4 m5 hc2 hc2a HRUN hzf hzc
          have hmem : (⟨x, yd, ym, yt, yl, yh⟩ : RB) ∈ L ++ [(⟨x, yd, ym, yt, yl, yh⟩ : RB)] := List.mem_append_right _ (List.mem_singleton.2 rfl)
          have hgnq : gn ∉ q.blocks := fun hm => by have := C0.out.q _ hm; omega
          have hpgn : gn ∉ [px] := by simp; omega
          generalize L ++ [(⟨x, yd, ym, yt, yl, yh⟩ : RB)] = L1 at *
          have HL1 := Lib.hid hle
          generalize w7.setCell ⟨px, 1, none⟩ (.slice ad3 (L.length + 1) cap3) = w8 at *
          have HM := Lib.hid (ps_ins C0.out (PT3.out.ps.fr0 (Fr.refl [] _).drew) hmem x rfl)
          have hY := N7.out.cell 0
          simp only [List.getElem?_toArray, List.getElem?_cons_zero] at hY
          clear hle hmem
          go_wp2_with fail
          refine wp_region_held_drew (S := fun W => W.cell? ⟨gn, 0, none⟩ = some (.int .i64 x)) (by kernel_rfl) (hY) (fun yH => ?_)
          refine tkY 0 yH (h := ?_)
          refine tkY 1 yH (h := ?_)
          refine tkY 2 yH (h := ?_)
          refine tkY 4 yH (h := ?_)
          refine tkY 5 yH (h := ?_)
          refine tkY 6 yH (h := ?_)
          refine wpAnyH_ready (rs := [3]) (by kernel_rfl) (by simp) ?_
          refine AllReadyH.cons (o := ?oopf6) ?hipf6 (fun K hK => ?hcpf6) AllReadyH.nil
          case hipf6 => (simp only [List.getElem?_toArray, List.getElem?_cons_zero, List.getElem?_cons_succ]; rfl)
          go_simp
          with_reducible refine HM.out.mono ?_
          rintro e wa ⟨rc, rfl, fa, ha⟩
          have HX5 := Lib.hid ha
          have B5 := Lib.hid (N7.out.drew.fr fa hgnq)
          have hY := (show wa.cell? ⟨gn, 0, none⟩ = some (.int .i64 x) from B5.out.cell 0)
          have b8 : ((rc : Int) == rc) = true := beq_self_eq_true _
          clear ha fa
          go_wp2_with fail
          refine hK.out _ _ (hY) (fun yH => ?_)
          clear hK K
          try simp only [Act.put, List.setIfInBounds_toArray, List.set_cons_zero, List.set_cons_succ]
          refine wpAnyH_ready (rs := [7]) (by kernel_rfl) (by simp) ?_
          refine AllReadyH.cons (o := ?oopf7) ?hipf7 (fun K hK => ?hcpf7) AllReadyH.nil
          case hipf7 => (simp only [List.getElem?_toArray, List.getElem?_cons_zero, List.getElem?_cons_succ]; rfl)
          go_simp
          with_reducible refine (HX5.out _ (Fr.refl _ _)).mono ?_
          rintro e wb ⟨rfl, fb, hb⟩
          have P9 := Lib.hid hb
          have hY := (show wb.cell? ⟨gn, 0, none⟩ = some (.int .i64 x) from (B5.out.fr fb hpgn).cell 0)
          clear hb fb
          go_wp2_with fail
          refine hK.out _ _ (hY) (fun yH => ?_)
          clear hK K
          try simp only [Act.put, List.setIfInBounds_toArray, List.set_cons_zero, List.set_cons_succ]
          refine tkY 8 yH (h := ?_)
          refine tkY 9 yH (h := ?_)
          refine wpAnyH_done (by kernel_rfl) ?_ _
          try simp only [Act.put, List.getElem_toArray, List.getElem_cons_zero, List.getElem_cons_succ, List.setIfInBounds_toArray, List.set_cons_zero, List.set_cons_succ]
          (try clear HL; try clear HN; try clear OKB; try clear HFE; try clear HBO; try clear HBI; try clear FQ; try clear HPXB; try clear hpy1; try clear hpy2; try clear hyq; try clear hbq; try clear hlen2; try clear cY0; try clear cY1; try clear cY2; try clear cY3; try clear cY4; try clear cY5; try clear cY6; try clear cY7; try clear d2; try clear d3; try clear d4; try clear d5; try clear d6; try clear d7; try clear k0; try clear k1; try clear k2; try clear k3; try clear k4; try clear k5; try clear hyb; try clear hBl; try clear B4; try clear Y4; try clear Y5; try clear Y6; try clear Y7; try clear HI8; try clear HD8; try clear HM8; try clear BP; try clear hpgb; try clear HM; try clear HX5; try clear B5; try clear hY)
          as_aux_lemma =>
            have hsm := ps_same C0.out P9.out
            go_wp2_with fail
            with_reducible refine hsm.mono ?_
            rintro e wz ⟨rfl, hz⟩
            have PZ := Lib.hid hz
            clear hsm hz
            go_wp2_with fail
            go_roundw
            case rel => exact ⟨j + 1, L1, by omega, by go_num, by rw [HL1.out]; omega, PZ.out⟩
            case measure => simp [intOf]; omega
    · have b1 : decide ((j : Int) < n) = false := by simp; omega
      have b1' : decide (j < n) = false := by simp; omega
      have hl8 : L.length ≤ 120 := by omega
      clear hlt HA HFEW hK
      go_wp2_with fail
      go_loopw [14] (fun v W => ∃ p : Nat, p ≤ L.length ∧ v = .int .i64 p ∧ PS w1 q px base L W) (fun v _ => L.length - (intOf v).toNat)
      case atStart => exact ⟨0, by omega, rfl, HK.out⟩
      case round =>
        clear HK
        obtain ⟨p, hp, rfl, hK⟩ := hrel
        have HK := Lib.hid hK
        have n1 : (0 : Int) ≤ p := by omega
        have w4 : IntKind.i64.wrap ((p : Int) + 1) = (p : Int) + 1 := IntWalk.i64_in _ (by omega)
        obtain ⟨ad, cap, c1, hel⟩ := hK.cellsN
        by_cases hlt2 : p < L.length
        · have b2 : decide ((p : Int) < L.length) = true := decide_eq_true (by omega)
          have b2' : decide (p < L.length) = true := decide_eq_true hlt2
          have n2 : (p : Int) < L.length := by omega
          obtain ⟨g8, rfl, hcap, e0⟩ := hel p hlt2
          obtain ⟨x0, hx0, _, _⟩ := hK.mem (List.getElem_mem hlt2)
          have hpl := ps_place C0.out hK (List.getElem_mem hlt2) x0 hx0
          rw [hx0] at e0
          have HX0 := Lib.hid hx0
          clear hel hK hx0
          go_wp2_with fail
          with_reducible refine hpl.mono ?_
          rintro e w5 ⟨i, kk, rfl, f5, h5, h5x⟩
          have P5 := Lib.hid h5
          obtain ⟨ad2, cap2, c2, hel2⟩ := h5.cellsN
          obtain ⟨g9, rfl, hcap2, e2⟩ := hel2 p hlt2
          rw [HX0.out] at e2
          have hxp := h5x w5 (Fr.refl _ _)
          have b3 : ((i : Int) != i) = false := by simp
          have b4 : (kk != kk) = false := by simp
          clear hpl h5 h5x f5 hel2 c1 e0
          go_wp2_with fail
          with_reducible refine hxp.mono ?_
          rintro e w6 ⟨rfl, f6⟩
          have P6 := Lib.hid (P5.out.fr0 f6)
          clear hxp f6
          go_wp2_with fail
          go_roundw
          case rel => exact ⟨p + 1, by omega, by go_num, P6.out⟩
          case measure => simp [intOf]; omega
        · have b2 : decide ((p : Int) < L.length) = false := decide_eq_false (by omega)
          have b2' : decide (p < L.length) = false := decide_eq_false hlt2
          have hfl := ps_flt C0.out hK
          clear hel hK hlt2
          go_wp2_with fail
          with_reducible refine hfl.mono ?_
          rintro e w5 ⟨rfl, h5⟩
          have F5 := Lib.hid (FQ.out _ h5.f)
          have hL := HL.out _ F5.out
          clear hfl h5
          go_wp2_with fail
          with_reducible refine hL.mono ?_
          rintro e w6 ⟨rfl, f6⟩
          go_wp2_with fail
          go_ret
          exact ⟨rfl, F5.out.trans f6⟩
theorem walk_iplaysW (w : World) (h : TabM w ∧ Tabs w) (a : Option Addr) (c : Nat) (l : List A20) (hl : ActA20 w a c l) : Calls Tryz.prog 3 #[.slice a l.length c] w fun e w' => e = .returned (.bool true) ∧ Fr [] w w' := walk_iplays w h.1 h.2 a c l hl
end
end Go.Proofs.YtmemoopkgjgmiaaGreatDoor
