/- ref16: Restore. -/
import Derived.Test.YtgoogihfggndpaaGreatDoorZg
import Derived.Test.YtgoogihfggndpaaGreatDoorKT
import Derived.Test.YtgoogihfggndpaaGreatDoorLD
namespace Go.Proofs.YtgoogihfggndpaaGreatDoor
set_option linter.unusedVariables false
set_option linter.unusedSimpArgs false
open Go.RowKit

def Y16 (w : World) (im : List Nat) (a s : Nat) (e : Ending) (w' : World) : Prop := Fr [] w w' ∧
  ((((¬ (im.length = lsize a s ∧ (im.drop 8).take 12 = ((l12 a s).drop 8).take 12)) ∨ mapM16 im a s = none) ∧ e = .returned (.tuple #[.pointer none, .int .i64 41])) ∨
   ((im.length = lsize a s ∧ (im.drop 8).take 12 = ((l12 a s).drop 8).take 12) ∧ ∃ (R : List Rn) (m p pw bw : Nat), mapM16 im a s = some (R.map zOf) ∧ e = .returned (.tuple #[.pointer (some ⟨m, 0, none⟩), .int .i64 0]) ∧ Blk w' m 42 #[.int .i64 a, .int .i64 s, .pointer (some ⟨p, 0, none⟩), .pointer (some ⟨pw, 0, none⟩)] ∧ IsX w' pw bw (exp4 (R.foldl markR (newK a s))) 0 0 ∧ ∀ k ∈ [m, pw, bw], w.heap.size ≤ k))
theorem rest16_no {w : World} (a s : Int) (hc : ¬ CfZ a s) (v : Value) : Calls Tryz.prog 11 #[.agg #[.int .i64 a, .int .i64 s], v] w fun e w' => e = .returned (.tuple #[.pointer none, .int .i64 40]) ∧ Fr [] w w' := by
  have hr := fun W => from12_no (w := W) a s hc v
  have F0 := Lib.hid ((Fr.refl [] w).alloc (.cells #[.int .i64 a, .int .i64 s] 23))
  clear hc
  go_enter Tryz.func11, Tryz.ntmps11
  go_wp2_with fail
  with_reducible refine (hr _).mono ?_
  rintro e w1 ⟨rfl, f1⟩
  go_wp2_with fail
  go_ret2
  exact ⟨rfl, F0.out.trans f1⟩
set_option maxRecDepth 100000 in
set_option maxHeartbeats 4000000 in
theorem rest16 {w : World} (a s : Nat) (hc : Cfg a s) (ad : Option Addr) (c : Nat) (im : List Nat) (hb : Byt w ad im) (hcap : im.length ≤ c) :
    Calls Tryz.prog 11 #[.agg #[.int .i64 a, .int .i64 s], .slice ad im.length c] w (Y16 w im a s) := by
  have hfr := Lib.hid (fun W (h : Byt W ad im) => from12_yes (w := W) a s hc ad c im h hcap)
  unfold F12 at hfr
  have F0 := Lib.hid ((Fr.refl [] w).alloc (.cells #[.int .i64 a, .int .i64 s] 23))
  have B0 := Lib.hid (Blk.new w 23 #[.int .i64 a, .int .i64 s])
  have HB := Lib.hid (fun W (hf : Fr [] w W) => hb.fr hf (by simp))
  have HX := Lib.hid (fun W (h : Byt W ad im) hl => xmap16 (w := W) a s hc ad c im h hl hcap)
  unfold MapX at HX
  have HMR := Lib.hid (fun rz (h : mapM16 im a s = some rz) => mapM_runs hc h)
  have HK0 := Lib.hid (show (newK a s).length = lsize a s / 4 from newK_len a s)
  have hl4 := lsize_4 a s
  have hrl : ∀ rz, mapM16 im a s = some rz → rz.length ≤ 1048576 → rz.length ≤ 1048576 := fun _ _ h => h
  obtain ⟨P, hP⟩ : ∃ P, Y16 w im a s = P := ⟨_, rfl⟩
  rw [hP]
  have HP := Lib.hid hP.symm
  clear hP hb
  by_cases hI : im.length = lsize a s ∧ (im.drop 8).take 12 = ((l12 a s).drop 8).take 12
  · have HI := Lib.hid hI
    have hfr0 := hfr.out _ (HB.out _ F0.out)
    clear hI hcap hrl
    generalize hn : im.length = n at *
    have HNn := Lib.hid hn
    clear hn
    go_enter Tryz.func11, Tryz.ntmps11
    go_wp2_with fail
    with_reducible refine hfr0.mono ?_
    rintro e w1 ⟨f1, h1⟩
    obtain ⟨-, m, p, pw, bw, rfl, hm, hw, hmb, hk⟩ := h1.resolve_right (fun h => h.1 HI.out)
    clear h1
    have F1 := Lib.hid (F0.out.trans f1)
    have B1 := Lib.hid (B0.out.fr f1 (by simp))
    have d0 := B1.out.cell 0
    have d1 := B1.out.cell 1
    simp only [List.getElem?_toArray, List.getElem?_cons_zero, List.getElem?_cons_succ] at d0 d1
    have hx := HX.out w1 (HB.out _ F1.out) HI.out.1
    have HM := Lib.hid hm
    have HW := Lib.hid hw
    have HKK := Lib.hid hk
    have HMB := Lib.hid hmb
    clear hm hw hk hmb hfr0 f1
    cases hmm : mapM16 im a s with
    | none =>
      rw [hmm] at hx
      go_wp2_with fail
      with_reducible refine hx.mono ?_
      rintro e w2 ⟨f2, rfl⟩
      go_wp2_with fail
      rw [HP.out]
      exact ⟨F1.out.trans f2, .inl ⟨.inr hmm, rfl⟩⟩
    | some rz =>
      rw [hmm] at hx
      obtain ⟨R, rfl, hR⟩ := HMR.out rz hmm
      have HR := Lib.hid hR
      have HMM := Lib.hid hmm
      clear hmm hR
      go_wp2_with fail
      with_reducible refine hx.mono ?_
      rintro e w2 ⟨f2, v, rfl, hO, hrl⟩
      obtain ⟨ax, cx, rfl, hzx, hax⟩ := hO.zb hrl
      rw [List.length_map] at hrl ⊢
      have hkb := HKK.out
      have hlm := HW.out.row.lt
      have HGb := Lib.hid (fun g o (e : ax = some ⟨g, o, none⟩) (h0 : 0 < R.length) => (show g ∉ [bw] from fun hm => by
        have h1 := hax g o e (by rw [List.length_map]; exact h0)
        simp only [List.mem_singleton] at hm
        omega))
      have HZ := Lib.hid (fun W (hf : Fr [bw] w2 W) (h0 : 0 < R.length) => hzx.fr hf (fun g o e => HGb.out g o e h0))
      have HRl := Lib.hid (show (R.map zOf).length = R.length from List.length_map ..)
      have M2 := Lib.hid (HM.out.fr f2 (by simp))
      have W2 := Lib.hid (HW.out.fr f2 (by simp) (by simp))
      have F2 := Lib.hid (F1.out.trans f2)
      clear hO hzx hax f2 hx hkb hlm d0 d1
      generalize hN : R.length = N at *
      have HN := Lib.hid hN
      clear hN
      go_wp2_with fail
      have HKl := Lib.hid (fun k => show 4 * ((List.take k R).foldl markR (newK a s)).length = lsize a s from by
        rw [marks_len, HK0.out]
        omega)
      go_loopw [10] (fun v W => ∃ k : Nat, k ≤ N ∧ v = .int .i64 k ∧ IsX W pw bw (exp4 ((R.take k).foldl markR (newK a s))) 0 0 ∧ Fr [bw] w2 W) (fun v _ => N - (intOf v).toNat)
      case atStart => exact ⟨0, by omega, rfl, by rw [List.take_zero]; exact W2.out, Fr.refl _ _⟩
      case round =>
        obtain ⟨k, hk, rfl, hIk, hFk⟩ := hrel
        have HIk := Lib.hid hIk
        have HFk := Lib.hid hFk
        by_cases hlt : k < N
        · obtain ⟨r, hr⟩ : ∃ r, R[k]? = some r := ⟨_, List.getElem?_eq_getElem (by rw [HN.out]; exact hlt)⟩
          obtain ⟨g, o, rfl, hg, hcc⟩ := (HZ.out _ hFk (by omega)).row (by rw [HRl.out]; omega)
          have hgb := HGb.out g o rfl (by omega)
          have hcz := hcc k (zOf r) (by rw [List.getElem?_map, hr]; rfl)
          have hok := HR.out r (List.mem_of_getElem? hr)
          have HTk := Lib.hid (show (R.take (k + 1)).foldl markR (newK a s) = markR ((R.take k).foldl markR (newK a s)) r from by
            rw [List.take_add_one, hr, Option.toList_some, List.foldl_append]; rfl)
          have HMk := Lib.hid (fun V (hV : Fr [] wr V) => xmarkR (HIk.out.fr hV (by simp) (by simp)) r (by rw [HKl.out]; exact hok))
          obtain ⟨x, mm, j⟩ := r
          simp only [zOf] at hcz
          have HC := Lib.hid (fun V (hV : Fr [bw] w2 V) (hE : V.cell? ⟨g, o + k * 3, none⟩ = some (.int .i64 x) ∧ V.cell? ⟨g, o + k * 3 + 1, none⟩ = some (.int .i64 mm) ∧ V.cell? ⟨g, o + k * 3 + 2, none⟩ = some (.int .i64 j)) => And.intro ((M2.out.fr hV (by simp; exact HMB.out)).cell 3) hE)
          have HCz := Lib.hid (fun V (hV : Fr [bw] wr V) => And.intro ((hV.cell (p := ⟨g, o + k * 3, none⟩) hg hgb).trans hcz.1) (And.intro ((hV.cell (p := ⟨g, o + k * 3 + 1, none⟩) hg hgb).trans hcz.2.1) ((hV.cell (p := ⟨g, o + k * 3 + 2, none⟩) hg hgb).trans hcz.2.2)))
          have hY := HC.out wr.drew hFk.drew (HCz.out _ (Fr.refl _ _).drew)
          simp only [List.getElem?_toArray, List.getElem?_cons_zero, List.getElem?_cons_succ] at hY
          have b0 : decide ((k : Int) < N) = true := by simp; omega
          have b0' : decide (k < N) = true := by simp; omega
          have wk : IntKind.i64.wrap ((k : Int) + 1) = (k : Int) + 1 := IntWalk.i64_in _ (by omega)
          have i0 : (0 : Int) ≤ k := by omega
          have i1 : (k : Int) < N := by omega
          clear hcc hr hok hIk hFk hcz
          go_wp2_with fail
          refine wp_region_held_drew (S := fun W => W.cell? ⟨m, 3, none⟩ = some (.pointer (some ⟨pw, 0, none⟩)) ∧ W.cell? ⟨g, o + k * 3, none⟩ = some (.int .i64 x) ∧ W.cell? ⟨g, o + k * 3 + 1, none⟩ = some (.int .i64 mm) ∧ W.cell? ⟨g, o + k * 3 + 2, none⟩ = some (.int .i64 j)) (by kernel_rfl) (hY) (fun yH => ?_)
          refine tkY 0 yH (h := ?_)
          refine tkY 1 yH (h := ?_)
          refine tkY 2 yH (h := ?_)
          refine tkY 3 yH (h := ?_)
          refine tkY 4 yH (h := ?_)
          refine tkY 5 yH (h := ?_)
          refine tkY 6 yH (h := ?_)
          refine tkY 7 yH (h := ?_)
          refine tkY 8 yH (h := ?_)
          refine tkY 9 yH (h := ?_)
          refine tkY 10 yH (h := ?_)
          refine tkY 11 yH (h := ?_)
          refine tkY 12 yH (h := ?_)
          refine tkY 13 yH (h := ?_)
          refine tkY 14 yH (h := ?_)
          refine tkY 15 yH (h := ?_)
          refine tkY 16 yH (h := ?_)
          refine tkY 17 yH (h := ?_)
          refine tkY 18 yH (h := ?_)
          refine wpAnyH_ready (rs := [19]) (by kernel_rfl) (by simp) ?_
          refine AllReadyH.cons (o := ?oob19) ?hib19 (fun K hK => ?hcb19) AllReadyH.nil
          case hib19 => (simp only [List.getElem?_toArray, List.getElem?_cons_zero, List.getElem?_cons_succ]; rfl)
          go_simp
          with_reducible refine (HMk.out _ (Fr.refl _ _).drew).mono ?_
          rintro e w7 ⟨rfl, h7, f7⟩
          have F7 := Lib.hid ((HFk.out.drew).trans f7)
          have H7 := Lib.hid h7
          have hY := HC.out w7 F7.out (HCz.out _ ((Fr.refl _ _).drew.trans f7))
          simp only [List.getElem?_toArray, List.getElem?_cons_zero, List.getElem?_cons_succ] at hY
          clear h7 f7
          go_wp2_with fail
          refine hK.out _ _ (hY) (fun yH => ?_)
          clear hK K
          try simp only [Act.put, List.setIfInBounds_toArray, List.set_cons_zero, List.set_cons_succ]
          refine wpAnyH_done (by kernel_rfl) ?_ _
          go_wp2_with fail
          go_roundw
          case rel => exact ⟨k + 1, by omega, by go_num, by rw [HTk.out]; exact H7.out, F7.out⟩
          case measure => simp [intOf]; omega
        · obtain rfl : k = N := by omega
          have b0 : decide ((k : Int) < k) = false := by simp
          have b0' : decide (k < k) = false := by simp
          have HIn := Lib.hid (show IsX wr pw bw (exp4 (R.foldl markR (newK a s))) 0 0 from by
            have h1 := HIk.out
            rw [show R.take k = R from List.take_of_length_le (by rw [HN.out]; exact Nat.le_refl _)] at h1
            exact h1)
          have Mr := Lib.hid (M2.out.fr hFk (by simp; exact HMB.out))
          have hkb := HKK.out
          have hs0 := F0.out.size
          have Fr6 := Lib.hid (F2.out.step hFk (fun x hx => .inr (by simp at hx; subst hx; have := hkb x (by simp); omega)))
          clear hIk hFk HZ HGb HKl hkb hs0
          go_wp2_with fail
          rw [HP.out]
          exact ⟨Fr6.out, .inr ⟨by rw [HNn.out]; exact HI.out, R, m, p, pw, bw, HMM.out, rfl, Mr.out, HIn.out, fun k hk => Nat.le_trans F0.out.size (HKK.out k hk)⟩⟩
  · have hfr0 := hfr.out _ (HB.out _ F0.out)
    have HI := Lib.hid hI
    clear hI hcap hrl
    generalize hn : im.length = n at *
    have HNn := Lib.hid hn
    clear hn
    go_enter Tryz.func11, Tryz.ntmps11
    go_wp2_with fail
    with_reducible refine hfr0.mono ?_
    rintro e w1 ⟨f1, ⟨hy, m, p, pw, bw, rfl, hm, hw, hmb, hk⟩ | ⟨hno, rfl⟩⟩
    · exact absurd hy HI.out
    go_wp2_with fail
    rw [HP.out]
    exact ⟨F0.out.trans f1, .inl ⟨.inl (by rw [HNn.out]; exact hno), rfl⟩⟩
end Go.Proofs.YtgoogihfggndpaaGreatDoor
