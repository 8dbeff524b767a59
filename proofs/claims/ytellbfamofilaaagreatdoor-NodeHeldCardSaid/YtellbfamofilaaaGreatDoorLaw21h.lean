/- law21.NodeHeld: the walk. -/
import Derived.Test.YtellbfamofilaaaGreatDoorMG
import Derived.Test.YtellbfamofilaaaGreatDoorOpen21
import Derived.Test.YtellbfamofilaaaGreatDoorKT
import Derived.Test.YtellbfamofilaaaGreatDoorGA
import Derived.Lib.MinMax
import Derived.Deep.CutBlock
namespace Go.Proofs.YtellbfamofilaaaGreatDoor
set_option linter.unusedVariables false
set_option linter.unusedSimpArgs false
open Go.RowKit

theorem strOf_size (l : List Nat) : (strOf l).size = l.length := by
  show (strOf l).data.size = _
  unfold strOf
  simp
set_option maxRecDepth 100000 in
set_option maxHeartbeats 4000000 in
theorem few21 (w : World) (z : Int) (ad : Option Addr) (cap : Nat) (l : List A21) (h : ActA21 w ad cap l) : Calls Tryz.prog 9 #[.int .i64 z, .slice ad l.length cap] w fun e w' => ∃ b, e = .returned (.bool b) ∧ Fr [] w w' ∧ (b = true → l.length ≤ 100) := by
  have HA := Lib.hid h
  have hle := h.len
  generalize hn : l.length = n at *
  have HN := Lib.hid hn
  clear hn h
  go_enter Tryz.func9, Tryz.ntmps9
  go_wp2_with fail
  go_loopg [5, 6] (n + 1) (fun gk v5 v6 W => ∃ (s i : Nat), v5 = .int .i64 s ∧ v6 = .int .i64 i ∧ (i + gk = n + 1 ∧ i ≤ n) ∧ s ≤ 16000 ∧ w = W)
  case atStart => exact ⟨0, 0, rfl, rfl, by omega, by omega, rfl⟩
  case round =>
    obtain ⟨s, i, rfl, rfl, hi, hs, rfl⟩ := hrel
    by_cases hlt : i < n
    · have b6 : decide ((i : Int) < n) = true := by simp; omega
      have b6' : decide (i < n) = true := by simp; omega
      by_cases h6 : s ≤ 6000
      · have b7 : decide ((s : Int) ≤ 6000) = true := by simp; omega
        have b7' : decide (s ≤ 6000) = true := by simp; omega
        obtain ⟨B, off, rfl, hBl, hr⟩ := HA.out.row (by rw [HN.out]; omega)
        have hrj := hr i (by rw [HN.out]; exact hlt)
        generalize l[i]'(by rw [HN.out]; exact hlt) = d at *
        have c2 := hrj 2 (by decide)
        obtain ⟨dk, dn, ds⟩ := d
        simp only [A21.cells, List.getElem?_cons_succ, List.getElem?_cons_zero] at c2
        have hsz := strOf_size ds
        generalize strOf ds = S at *
        obtain ⟨k, hk⟩ : ∃ k, ds.length = k := ⟨_, rfl⟩
        rw [hk] at hsz
        have i0 : (0 : Int) ≤ i := by omega
        have i1 : (i : Int) < n := by omega
        obtain ⟨mn, hmn⟩ : ∃ mn : Nat, min (k : Int) 9999 = mn := ⟨min k 9999, by omega⟩
        have hmn2 : mn ≤ 9999 := by omega
        have ws : IntKind.i64.wrap ((s : Int) + mn) = ((s + mn : Nat) : Int) := by rw [IntWalk.i64_in _ (by omega)]; push_cast; rfl
        have wi : IntKind.i64.wrap ((i : Int) + 1) = (i : Int) + 1 := IntWalk.i64_in _ (by omega)
        clear hr hrj hk
        go_wp2_with fail
        go_roundg (gk - 1)
        case measure => omega
        case rel => exact ⟨s + mn, i + 1, rfl, by go_num, by omega, by omega, rfl⟩
      · have b7 : decide ((s : Int) ≤ 6000) = false := by simp; omega
        have b7' : decide (s ≤ 6000) = false := by simp; omega
        obtain ⟨bb, hbb⟩ : ∃ bb, decide ((n : Int) ≤ 100) = bb := ⟨_, rfl⟩
        have hbb' : decide (n ≤ 100) = bb := by rw [← hbb]; exact decide_eq_decide.2 (by omega)
        cases bb with
        | true =>
          have h100 : n ≤ 100 := of_decide_eq_true hbb'
          go_wp2_with fail
          go_ret
          exact ⟨_, rfl, Fr.refl _ _, fun _ => h100⟩
        | false =>
          go_wp2_with fail
          go_ret
          exact ⟨_, rfl, Fr.refl _ _, fun h => by cases h⟩
    · have b6 : decide ((i : Int) < n) = false := by simp; omega
      have b6' : decide (i < n) = false := by simp; omega
      obtain ⟨bb, hbb⟩ : ∃ bb, decide ((n : Int) ≤ 100) = bb := ⟨_, rfl⟩
      have hbb' : decide (n ≤ 100) = bb := by rw [← hbb]; exact decide_eq_decide.2 (by omega)
      obtain ⟨b7, hb7⟩ : ∃ b7, decide ((s : Int) ≤ 6000) = b7 := ⟨_, rfl⟩
      have hb7' : decide (s ≤ 6000) = b7 := by rw [← hb7]; exact decide_eq_decide.2 (by omega)
      cases bb with
      | true =>
        have h100 : n ≤ 100 := of_decide_eq_true hbb'
        go_wp2_with fail
        go_ret
        exact ⟨_, rfl, Fr.refl _ _, fun _ => h100⟩
      | false =>
        go_wp2_with fail
        go_ret
        exact ⟨_, rfl, Fr.refl _ _, fun h => by cases h⟩
/-- The walk's state: the nodes, and the rows that tell them. -/
def KHn (w : World) (q : MH) (u0 : TM) (wb : Nat) (v4 v5 v6 : Value) (m i : Nat) (W : World) : Prop := ∃ l par own nm fr, l.length = m ∧ CP w q u0 l par own nm fr W ∧ RN wb v4 v5 v6 l own par W ∧ ∀ y, own y ≤ i
/-- Behind an act, ahead of left. -/
def MHn (w : World) (q : MH) (u0 : TM) (wb : Nat) (v4 v5 v6 : Value) (m i : Nat) (W : World) : Prop := ∃ lr l par own nm fr, lr.length = m ∧ CP w q u0 l par own nm fr W ∧ RN wb v4 v5 v6 lr own par W ∧ (∀ y, own y ≤ i) ∧ Rem own par lr l ∧ lr.Nodup
section
variable {w : World} {q : MH} {u0 : TM} {wb : Nat} {v4 v5 v6 : Value} {m i : Nat} {W W' : World} {a4 a5 a6 : Option Addr} {c4 c5 c6 : Nat}
theorem KHn.fr0 (h : KHn w q u0 wb v4 v5 v6 m i W) (hf : Fr [] W W') : KHn w q u0 wb v4 v5 v6 m i W' := by
  obtain ⟨l, par, own, nm, fr, h1, h2, h3, h4⟩ := h
  exact ⟨l, par, own, nm, fr, h1, h2.fr0 hf, h3.fr0 hf, h4⟩
theorem KHn.few (h : KHn w q u0 wb v4 v5 v6 m i W) : m ≤ 224 := by
  obtain ⟨l, par, own, nm, fr, h1, h2, h3, h4⟩ := h
  rw [← h1]; exact h2.few
theorem MHn.left (h : MHn w q u0 wb (.slice a4 m c4) (.slice a5 m c5) (.slice a6 m c6) m i W) (hm : m ≤ 1000) (hb : wb ≤ W.heap.size) :
    Calls Tryz.prog 16 #[.slice a4 m c4, .slice a5 m c5, .slice a6 m c6] W fun e w' => ∃ m' b4 b5 b6 d4 d5 d6, e = .returned (.tuple #[.slice b4 m' d4, .slice b5 m' d5, .slice b6 m' d6]) ∧ KHn w q u0 wb (.slice b4 m' d4) (.slice b5 m' d5) (.slice b6 m' d6) m' i w' ∧ Fr [] W w' := by
  obtain ⟨lr, l, par, own, nm, fr, rfl, h2, h3, h4, h5, h6⟩ := h
  obtain ⟨r1, r2, r3⟩ := h3.rowsV rfl
  refine (hleft W a4 a5 a6 c4 c5 c6 lr own par r1 r2 r3 h6 hm).mono fun e w' ⟨v1, v2, v3, l', he, k1, k2, k3, k4⟩ => ?_
  obtain rfl : l' = l := k2.uniq h5 k3 h2.firm h6
  obtain ⟨b4, d4, b5, d5, b6, d6, rfl, rfl, rfl, _⟩ := k1.rows
  exact ⟨l'.length, b4, b5, b6, d4, d5, d6, he, ⟨l', par, own, nm, fr, rfl, h2.fr0 k4, k1.lo hb, h4⟩, k4⟩
/-- The arms of an act: what each call must be given. -/
theorem KHn.start {par refs : Nat → Nat} {B : Nat → List Nat} {fr : Nat} (h : NP w q u0 [] par refs B fr W) : KHn w q u0 wb (.slice none 0 0) (.slice none 0 0) (.slice none 0 0) 0 0 W :=
  ⟨[], par, _, _, fr, rfl, CP.start h, RN.nil _ _ _ _, fun _ => Nat.le_refl _⟩
end
set_option maxRecDepth 100000 in
set_option maxHeartbeats 16000000 in
theorem walk_nheld (w : World) (hM : TabM w) (hT : Tabs w) (ad : Option Addr) (cap : Nat) (l : List A21) (hA : ActA21 w ad cap l) : Calls Tryz.prog 3 #[.slice ad l.length cap] w fun e w' => e = .returned (.bool true) ∧ Fr [] w w' := by
  have HGo := Lib.hid (fun V (hV : Fr [] w V) => (show Calls Tryz.prog 10 #[] V fun e w' => e = .returned (.bool true) ∧ Fr [] V w' from goes21 V (hM.fr hV (by simp)) (hT.fr hV (by simp))))
  have HF := Lib.hid (fun V (hV : Fr [] w V) => fresh21 V (hM.fr hV (by simp)) (hT.fr hV (by simp)))
  have HW := Lib.hid (few21 w 0 ad cap l hA)
  have HA := Lib.hid hA
  have hle := hA.len
  generalize hn : l.length = n at *
  have HN := Lib.hid hn
  clear hn hA hM hT
  go_enter Tryz.func3, Tryz.ntmps3
  go_wp2_with fail
  with_reducible refine HW.out.mono ?_
  rintro e wa ⟨bf, rfl, fa, hbf⟩
  have FA := Lib.hid fa
  clear fa HW
  cases bf with
  | false =>
    clear hbf
    go_wp2_with fail
    with_reducible refine (HGo.out _ FA.out).mono ?_
    rintro e w1 ⟨rfl, f1⟩
    have F1 := Lib.hid (FA.out.trans f1)
    clear f1
    go_wp2_with fail
    go_ret
    exact ⟨rfl, F1.out⟩
  | true =>
    have hn100 := hbf rfl
    have hf := HF.out _ FA.out
    clear hbf HF
    go_wp2_with fail
    with_reducible refine hf.mono ?_
    rintro e w1 ⟨q, u0, rfl, n1, -, hq, f1⟩
    have OK := Lib.hid n1.bok
    have HQ := Lib.hid (fun k hk => (show w.heap.size ≤ k from Nat.le_trans FA.out.size (hq k hk)))
    have F1 := Lib.hid (FA.out.trans f1)
    have K1 := Lib.hid (KHn.start (wb := w1.heap.size) n1)
    have HB := Lib.hid (show w1.heap.size ≤ w1.heap.size from Nat.le_refl _)
    obtain ⟨wb, hwb⟩ : ∃ wb, w1.heap.size = wb := ⟨_, rfl⟩
    have HWB := Lib.hid (show w.heap.size ≤ wb from hwb ▸ F1.out.size)
    rw [hwb] at K1 OK
    have HB1 := Lib.hid (show wb ≤ w1.heap.size from Nat.le_of_eq hwb.symm)
    clear n1 hq f1 hf HB hwb FA
    go_wp2_with fail
    go_loopg [4, 5, 6, 7] (n + 1) (fun gk v4 v5 v6 v7 W => ∃ (i m : Nat) (a4 a5 a6 : Option Addr) (c4 c5 c6 : Nat), v4 = .slice a4 m c4 ∧ v5 = .slice a5 m c5 ∧ v6 = .slice a6 m c6 ∧ v7 = .int .i64 i ∧ (i + gk = n + 1 ∧ i ≤ n) ∧ Hid (KHn wa q u0 wb (.slice a4 m c4) (.slice a5 m c5) (.slice a6 m c6) m i W) ∧ Hid (Fr [] w W) ∧ Hid (wb ≤ W.heap.size))
    case atStart => exact ⟨0, 0, none, none, none, 0, 0, 0, rfl, rfl, rfl, rfl, by omega, K1, F1, HB1⟩
    case round =>
      clear K1 F1 HB1
      obtain ⟨i, m, a4, a5, a6, c4, c5, c6, rfl, rfl, rfl, rfl, hi, KH, F3, HB3⟩ := hrel
      have hm := KH.out.few
      obtain ⟨G, hG⟩ : ∃ G, G = gk := ⟨_, rfl⟩
      subst hG
      by_cases hlt : i < n
      · have b6 : decide ((i : Int) < n) = true := by simp; omega
        have b6' : decide (i < n) = true := by simp; omega
        obtain ⟨B, off, rfl, hBl, hr⟩ := HA.out.row (by rw [HN.out]; omega)
        have hrj := hr i (by rw [HN.out]; exact hlt)
        have hdok := HA.out.each _ (List.getElem_mem (by rw [HN.out]; exact hlt : i < l.length))
        generalize l[i]'(by rw [HN.out]; exact hlt) = d at *
        have e0 := (F3.out.cell (p := ⟨B, off + i * 3, none⟩) hBl (by simp)).trans (hrj 0 (by decide))
        have e1 := (F3.out.cell (p := ⟨B, off + i * 3 + 1, none⟩) hBl (by simp)).trans (hrj 1 (by decide))
        have e2 := (F3.out.cell (p := ⟨B, off + i * 3 + 2, none⟩) hBl (by simp)).trans (hrj 2 (by decide))
        obtain ⟨dk, dn, ds⟩ := d
        simp only [A21.cells, List.getElem?_cons_succ, List.getElem?_cons_zero] at e0 e1 e2
        have HS := Lib.hid hdok.b
        have hdn := hdok.n
        simp only at hdn
        have i0 : (0 : Int) ≤ i := by omega
        have i1 : (i : Int) < n := by omega
        have wi : IntKind.i64.wrap ((i : Int) + 1) = (i : Int) + 1 := IntWalk.i64_in _ (by omega)
        clear hr hrj hdok
        generalize hsS : strOf ds = sS at *
        have HsS := Lib.hid hsS
        clear hsS
        obtain ⟨k, hk, hkm, hkv⟩ : ∃ k : Nat, k = (if 0 < m then nthZ dn (m + 1) else 0) ∧ k ≤ m ∧ (0 < m → k = nthZ dn (m + 1)) := ⟨_, rfl, by
          split
          · have := nthZ_lt dn (m + 1) (by omega); omega
          · omega, fun h => if_pos h⟩
        obtain ⟨t1, t2⟩ := tmod_in dn (m + 1) (by omega) (by omega)
        have t3 := nthZ_max dn (m + 1)
        go_upto_if 34 with fail
        go_cut [9] from 20 to 188 (fun s9 wx => s9 = .int .i64 k ∧ wr.alloc (.cells #[.int .i64 dk, .int .i64 dn, .string sS] 30) = wx)
        case first =>
          by_cases h0 : 0 < m
          · have b7 : decide ((0 : Int) < m) = true := by simp; omega
            have b7' : decide (0 < m) = true := by simp; omega
            have hk1 := hkv h0
            rw [← hk1] at t3
            generalize hR : dn.tmod ((m + 1 : Nat) : Int) = R at *
            have hR' : dn.tmod ((m : Int) + 1) = R := by rw [← hR]; push_cast; rfl
            have wm : IntKind.i64.wrap ((m : Int) + 1) = (m : Int) + 1 := IntWalk.i64_in _ (by omega)
            have b8 : ((m : Int) + 1 == 0) = false := by simp; omega
            clear hk hk1 hkv
            go_wp2_with fail
            go_meet
            exact ⟨rfl, rfl⟩
          · have b7 : decide ((0 : Int) < m) = false := by simp; omega
            have b7' : decide (0 < m) = false := by simp; omega
            obtain rfl : m = 0 := by omega
            rw [if_neg h0] at hk
            subst hk
            go_wp2_with fail
            go_meet
            exact ⟨rfl, rfl⟩
        case rest =>
          obtain ⟨rfl, rfl⟩ := hcut
          clear hk hkv t1 t2 t3 hdn
          obtain ⟨l0, par, own, nm, fr, hl0, hCP, hRN, hown⟩ := KH.out
          obtain ⟨r4, r5, r6⟩ := hRN.rowsV hl0
          obtain ⟨u, hu, hum⟩ : ∃ u : Nat, (k < m → l0[k]? = some u ∧ u ∈ l0 ∧ u ≠ 0) ∧ (¬ k < m → u = 0) := by
            by_cases h : k < m
            · refine ⟨l0[k]'(by omega), fun _ => ⟨List.getElem?_eq_getElem _, List.getElem_mem _, (hCP.rng (List.getElem_mem _)).1⟩, fun hn => absurd h hn⟩
            · exact ⟨0, fun hn => absurd hn h, fun _ => rfl⟩
          have f0 : Fr [] wr (wr.alloc (.cells #[.int .i64 dk, .int .i64 dn, .string sS] 30)) := (Fr.refl [] wr).alloc _
          have y0 : (wr.alloc (.cells #[.int .i64 dk, .int .i64 dn, .string sS] 30)).cell? ⟨wr.heap.size, 0, none⟩ = some (.int .i64 dk) := (Blk.new wr 30 #[.int .i64 dk, .int .i64 dn, .string sS]).cell 0
          have y2 : (wr.alloc (.cells #[.int .i64 dk, .int .i64 dn, .string sS] 30)).cell? ⟨wr.heap.size, 2, none⟩ = some (.string sS) := (Blk.new wr 30 #[.int .i64 dk, .int .i64 dn, .string sS]).cell 2
          have hB0 : wb ≤ (wr.alloc (.cells #[.int .i64 dk, .int .i64 dn, .string sS] 30)).heap.size := Nat.le_trans HB3.out f0.size
          have hyb : wb ≤ wr.heap.size := HB3.out
          have F4 := Lib.hid (F3.out.trans f0)
          have CP4 := hCP.fr0 f0
          have RN4 := hRN.fr0 f0
          have r4' := r4.fr00 f0
          have r6' := r6.fr00 f0
          generalize wr.alloc (.cells #[.int .i64 dk, .int .i64 dn, .string sS] 30) = V at *
          generalize wr.heap.size = yb at *
          clear hCP hRN r4 r5 r6 f0 KH F3 HB3 e0 e1 e2
          go_upto_if 48 with fail
          go_cut [10] from 20 to 188 (fun s10 wx => s10 = .int .i64 u ∧ V = wx)
          case first =>
            by_cases h : k < m
            · obtain ⟨g4, rfl, C4⟩ := r4'.look (hu h).1
              have c4 := C4 V (Fr.refl _ _)
              have b7 : decide ((k : Int) < m) = true := by simp; omega
              have b7' : decide (k < m) = true := by simp; omega
              have k0 : (0 : Int) ≤ k := by omega
              have k1 : (k : Int) < m := by omega
              clear C4 r4' r6' CP4 RN4
              go_wp2_with fail
              go_meet
              exact ⟨rfl, rfl⟩
            · have b7 : decide ((k : Int) < m) = false := by simp; omega
              have b7' : decide (k < m) = false := by simp; omega
              have := hum h
              subst this
              clear r4' r6' CP4 RN4
              go_wp2_with fail
              go_meet
              exact ⟨rfl, rfl⟩
          case rest =>
            obtain ⟨rfl, rfl⟩ := hcut
            clear r4'
            have HND := Lib.hid CP4.nd
            have hybq : yb ∉ q.blocks := fun hm => by have := OK.out.q _ hm; omega
            have UL := Lib.hid (show u = 0 ∨ u ∈ l0 from by
              by_cases h : k < m
              · exact .inr (hu h).2.1
              · exact .inl (hum h))
            go_upto_block 2 with fail
            go_cut [4, 5, 6] from 20 to 188 (fun v4 v5 v6 wx => ∃ (m' : Nat) (b4 b5 b6 : Option Addr) (d4 d5 d6 : Nat), v4 = .slice b4 m' d4 ∧ v5 = .slice b5 m' d5 ∧ v6 = .slice b6 m' d6 ∧ m' ≤ 1000 ∧ Hid (MHn wa q u0 wb (.slice b4 m' d4) (.slice b5 m' d5) (.slice b6 m' d6) m' (i + 1) wx) ∧ Hid (Fr [] w wx) ∧ Hid (wb ≤ wx.heap.size))
            case first =>
              by_cases h3 : dk = 3
              · subst h3
                by_cases h : k < m
                · obtain ⟨hu1, hu2, hu3⟩ := hu h
                  obtain ⟨g6, rfl, C6⟩ := r6'.look (c := own u) (by rw [List.getElem?_map, hu1]; rfl)
                  have c6' := C6 V.drew ((Fr.refl [] V).drew)
                  obtain ⟨hI6, hg6⟩ := RN4.m.rowI (by rw [List.length_map]; omega)
                  have hg6q : g6 ∉ q.blocks := fun hm => by have := OK.out.q _ hm; omega
                  have hg6V := hI6.lt
                  have CPd := Lib.hid (CP4.fr0 ((Fr.refl [] V).drew))
                  have RNd := Lib.hid (RN4.fr0 ((Fr.refl [] V).drew))
                  have Fd := Lib.hid (F4.out.drew)
                  have HRf := Lib.hid (c_refs CPd.out hu2)
                  have HHo := Lib.hid (fun W (hW : CP wa q u0 l0 par own nm fr W) => c_hold hW hu2 (by have := hown u; omega))
                  have hfirm : own u = 0 → bel par l0 u ≠ 0 := fun h0 => bel_pos.2 (CP4.firm u hu2 h0)
                  have hou := hown u
                  have hbl := bel_le par l0 u
                  have Hu1 := Lib.hid hu1
                  generalize hbl2 : bel par l0 u = bl at *
                  generalize hou2 : own u = ou at *
                  have HOU := Lib.hid hou2
                  have b27 : decide ((0 : Int) < u) = true := by simp; omega
                  have b27' : decide (0 < u) = true := by simp; omega
                  have w27 : IntKind.i64.wrap (((ou + bl : Nat) : Int) + ou) = ((ou + bl + ou : Nat) : Int) := by rw [IntWalk.i64_in _ (by omega)]; push_cast; rfl
                  have b28 : decide ((0 : Int) < ((ou + bl + ou : Nat) : Int)) = true := by simp; omega
                  generalize hrr : ou + bl = rr at *
                  generalize hrs : rr + ou = rs at *
                  have b28' : decide (0 < rs) = true := by simp; omega
                  have k0 : (0 : Int) ≤ k := by omega
                  have k1 : (k : Int) < m := by omega
                  have wo : IntKind.i64.wrap ((ou : Int) + 1) = ((ou + 1 : Nat) : Int) := by rw [IntWalk.i64_in _ (by omega)]; push_cast; rfl
                  clear C6 r6' CP4 RN4 F4 hfirm hu1 hu hum hbl2 hou2 hrr hrs hI6
                  as_aux_lemma =>
                    go_wp2_with fail
                    refine wp_region_held_drew (S := fun W => W.cell? ⟨g6, k, none⟩ = some (.int .i64 ou)) (by kernel_rfl) (c6') (fun yH => ?_)
                    refine tkY 0 yH (h := ?_)
                    refine tkY 1 yH (h := ?_)
                    refine tkY 2 yH (h := ?_)
                    refine tkY 3 yH (h := ?_)
                    refine tkY 4 yH (h := ?_)
                    refine tkY 6 yH (h := ?_)
                    refine tkY 7 yH (h := ?_)
                    refine tkY 8 yH (h := ?_)
                    refine tkY 9 yH (h := ?_)
                    refine wpAnyH_ready (rs := [5]) (by kernel_rfl) (by simp) ?_
                    refine AllReadyH.cons (o := ?oora9) ?hira9 (fun K hK => ?hcra9) AllReadyH.nil
                    case hira9 => (simp only [List.getElem?_toArray, List.getElem?_cons_zero, List.getElem?_cons_succ]; rfl)
                    go_simp
                    with_reducible refine HRf.out.mono ?_
                    rintro e w5 ⟨rfl, h5, f5⟩
                    have H5 := Lib.hid h5
                    have R5 := Lib.hid (RNd.out.frq f5 OK.out.q)
                    have F5 := Lib.hid (Fd.out.step f5 (fun k hk => .inr (HQ.out k hk)))
                    have hB5 : wb ≤ w5.heap.size := Nat.le_trans hB0 f5.size
                    have c6' := (f5.cell (p := ⟨g6, k, none⟩) (by exact hg6V) hg6q).trans c6'
                    have hlt5 : g6 < w5.heap.size := Nat.lt_of_lt_of_le hg6V f5.size
                    clear h5 f5
                    go_wp2_with fail
                    refine hK.out _ _ (c6') (fun yH => ?_)
                    clear hK K
                    try simp only [Act.put, List.setIfInBounds_toArray, List.set_cons_zero, List.set_cons_succ]
                    refine tkY 10 yH (h := ?_)
                    refine tkY 11 yH (h := ?_)
                    refine tkY 12 yH (h := ?_)
                    refine tkY 13 yH (h := ?_)
                    refine tkY 14 yH (h := ?_)
                    refine tkY 15 yH (h := ?_)
                    refine wpAnyH_ready (rs := [16]) (by kernel_rfl) (by simp) ?_
                    refine AllReadyH.cons (o := ?oora16) ?hira16 (fun K hK => ?hcra16) AllReadyH.nil
                    case hira16 => (simp only [List.getElem?_toArray, List.getElem?_cons_zero, List.getElem?_cons_succ]; rfl)
                    go_simp
                    with_reducible refine (HHo.out _ H5.out).mono ?_
                    rintro e w6 ⟨rfl, h6, f6⟩
                    have H6 := Lib.hid h6
                    have R6 := Lib.hid (R5.out.frq f6 OK.out.q)
                    have F6 := Lib.hid (F5.out.step f6 (fun k hk => .inr (HQ.out k hk)))
                    have hB6 : wb ≤ w6.heap.size := Nat.le_trans hB5 f6.size
                    have c6' := (f6.cell (p := ⟨g6, k, none⟩) hlt5 hg6q).trans c6'
                    clear h6 f6
                    go_wp2_with fail
                    refine hK.out _ _ (c6') (fun yH => ?_)
                    clear hK K
                    try simp only [Act.put, List.setIfInBounds_toArray, List.set_cons_zero, List.set_cons_succ]
                    refine tkY 17 yH (h := ?_)
                    refine tkY 18 yH (h := ?_)
                    refine wpAnyH_done (by kernel_rfl) ?_ _
                    try simp only [Act.put, List.getElem_toArray, List.getElem_cons_zero, List.getElem_cons_succ, List.setIfInBounds_toArray, List.set_cons_zero, List.set_cons_succ]
                    obtain ⟨s1, s2, s3, s4⟩ := R6.out.setO HND.out Hu1.out (ou + 1)
                    have S1 := Lib.hid s1
                    have S3 := Lib.hid s3
                    clear s1 s3 R5 R6
                    go_wp2_with fail
                    go_meet
                    exact ⟨m, a4, a5, some ⟨g6, 0, none⟩, c4, c5, c6, rfl, rfl, rfl, by omega, Lib.hid ⟨l0, l0, par, _, nm, fr, hl0, H6.out.frL OK.out S3.out (fun k hk => by simp at hk; subst hk; exact s2), S1.out, fun y => by
                      by_cases e : y = u
                      · rw [e, up_same]; omega
                      · rw [up_ne _ _ e]; exact Nat.le_trans (hown y) (by omega), .refl l0, HND.out⟩, Lib.hid (F6.out.step S3.out (fun k hk => by simp at hk; subst hk; exact .inr (Nat.le_trans HWB.out s2))), Lib.hid (Nat.le_trans hB6 S3.out.size)⟩
                · have := hum h
                  subst this
                  have CPd := Lib.hid (CP4.fr0 ((Fr.refl [] V).drew))
                  have RNd := Lib.hid (RN4.fr0 ((Fr.refl [] V).drew))
                  have Fd := Lib.hid (F4.out.drew)
                  clear CP4 RN4 F4 r6' hu hum
                  go_wp2_with fail
                  refine wp_region_held_drew (S := fun _ => True) (by kernel_rfl) (trivial) (fun yH => ?_)
                  refine tkY 0 yH (h := ?_)
                  refine tkY 1 yH (h := ?_)
                  refine tkY 2 yH (h := ?_)
                  refine tkN 3 yH (h := ?_)
                  refine tkN 4 yH (h := ?_)
                  refine tkN 5 yH (h := ?_)
                  refine tkN 6 yH (h := ?_)
                  refine tkN 7 yH (h := ?_)
                  refine tkN 8 yH (h := ?_)
                  refine tkN 9 yH (h := ?_)
                  refine tkN 10 yH (h := ?_)
                  refine tkN 11 yH (h := ?_)
                  refine tkY 12 yH (h := ?_)
                  refine tkY 13 yH (h := ?_)
                  refine tkN 14 yH (h := ?_)
                  refine tkN 15 yH (h := ?_)
                  refine tkN 16 yH (h := ?_)
                  refine tkN 17 yH (h := ?_)
                  refine tkY 18 yH (h := ?_)
                  refine wpAnyH_done (by kernel_rfl) ?_ _
                  try simp only [Act.put, List.getElem_toArray, List.getElem_cons_zero, List.getElem_cons_succ, List.setIfInBounds_toArray, List.set_cons_zero, List.set_cons_succ]
                  go_wp2_with fail
                  go_meet
                  exact ⟨m, a4, a5, a6, c4, c5, c6, rfl, rfl, rfl, by omega, Lib.hid ⟨l0, l0, par, own, nm, fr, hl0, CPd.out, RNd.out, fun y => Nat.le_trans (hown y) (by omega), .refl l0, HND.out⟩, Fd, Lib.hid hB0⟩
              · have b3 : (dk == 3) = false := by simpa using h3
                by_cases h4 : dk = 4
                · subst h4
                  by_cases h : k < m
                  · obtain ⟨hu1, hu2, hu3⟩ := hu h
                    obtain ⟨g6, rfl, C6⟩ := r6'.look (c := own u) (by rw [List.getElem?_map, hu1]; rfl)
                    have c6' := C6 V (Fr.refl [] V)
                    obtain ⟨hI6, hg6⟩ := RN4.m.rowI (by rw [List.length_map]; omega)
                    have hg6q : g6 ∉ q.blocks := fun hm => by have := OK.out.q _ hm; omega
                    have hg6V := hI6.lt
                    have hou := hown u
                    have Hu1 := Lib.hid hu1
                    have b27 : decide ((0 : Int) < u) = true := by simp; omega
                    have b27' : decide (0 < u) = true := by simp; omega
                    have k0 : (0 : Int) ≤ k := by omega
                    have k1 : (k : Int) < m := by omega
                    have H4' := Lib.hid CP4
                    have R4' := Lib.hid RN4
                    cases hoj : own u with
                    | zero =>
                      rw [hoj] at c6'
                      clear C6 r6' CP4 RN4 hu1 hu hum hI6
                      go_wp2_with fail
                      go_meet
                      exact ⟨m, a4, a5, some ⟨g6, 0, none⟩, c4, c5, c6, rfl, rfl, rfl, by omega, Lib.hid ⟨l0, l0, par, own, nm, fr, hl0, H4'.out, R4'.out, fun y => Nat.le_trans (hown y) (by omega), .refl l0, HND.out⟩, F4, Lib.hid hB0⟩
                    | succ j =>
                      rw [hoj] at c6' hou
                      have HLt := Lib.hid (c_let CP4 hu2 j hoj)
                      have HOJ := Lib.hid hoj
                      have b30 : decide ((0 : Int) < ((j + 1 : Nat) : Int)) = true := decide_eq_true (by omega)
                      have wo : IntKind.i64.wrap (((j + 1 : Nat) : Int) - 1) = (j : Int) := by rw [IntWalk.i64_in _ (by omega)]; omega
                      generalize hjj : j + 1 = jj at *
                      have b30' : decide (0 < jj) = true := by simp; omega
                      clear C6 r6' CP4 RN4 hu1 hu hum hI6 hoj
                      as_aux_lemma =>
                        go_wp2_with fail
                        with_reducible refine HLt.out.mono ?_
                        rintro e w5 ⟨n5, l1, fr1, rfl, f5, h5, h5b, h5c⟩
                        have H5 := Lib.hid h5
                        have H5b := Lib.hid h5b
                        have R5 := Lib.hid (R4'.out.frq f5 OK.out.q)
                        have F5 := Lib.hid (F4.out.step f5 (fun k hk => .inr (HQ.out k hk)))
                        have hB5 : wb ≤ w5.heap.size := Nat.le_trans hB0 f5.size
                        have c5' := (f5.cell (p := ⟨g6, k, none⟩) (by exact hg6V) hg6q).trans c6'
                        clear h5 h5b h5c f5 R4' H4' F4 HLt c6'
                        obtain ⟨s1, s2, s3, s4⟩ := R5.out.setO HND.out Hu1.out j
                        have S1 := Lib.hid s1
                        have S3 := Lib.hid s3
                        clear s1 s3 R5
                        go_wp2_with fail
                        go_meet
                        exact ⟨m, a4, a5, some ⟨g6, 0, none⟩, c4, c5, c6, rfl, rfl, rfl, by omega, Lib.hid ⟨l0, l1, par, _, nm, fr1, hl0, H5.out.frL OK.out S3.out (fun k hk => by simp at hk; subst hk; exact s2), S1.out, fun y => by
                          by_cases e : y = u
                          · rw [e, up_same]; omega
                          · rw [up_ne _ _ e]; exact Nat.le_trans (hown y) (by omega), H5b.out, HND.out⟩, Lib.hid (F5.out.step S3.out (fun k hk => by simp at hk; subst hk; exact .inr (Nat.le_trans HWB.out s2))), Lib.hid (Nat.le_trans hB5 S3.out.size)⟩
                  · have := hum h
                    subst this
                    have H4' := Lib.hid CP4
                    have R4' := Lib.hid RN4
                    clear CP4 RN4 r6' hu hum
                    go_wp2_with fail
                    go_meet
                    exact ⟨m, a4, a5, a6, c4, c5, c6, rfl, rfl, rfl, by omega, Lib.hid ⟨l0, l0, par, own, nm, fr, hl0, H4'.out, R4'.out, fun y => Nat.le_trans (hown y) (by omega), .refl l0, HND.out⟩, F4, Lib.hid hB0⟩
                · have b4 : (dk == 4) = false := by simpa using h4
                  by_cases h : k < m
                  · obtain ⟨hu1, hu2, hu3⟩ := hu h
                    have HRf := Lib.hid (c_refs CP4 hu2)
                    have hfirm : own u = 0 → bel par l0 u ≠ 0 := fun h0 => bel_pos.2 (CP4.firm u hu2 h0)
                    have b27 : decide ((0 : Int) < u) = true := by simp; omega
                    have b27' : decide (0 < u) = true := by simp; omega
                    have br : (((own u + bel par l0 u : Nat) : Int) == 0) = false := by simp; omega
                    have br' : ((own u + bel par l0 u) == 0) = false := by simp; omega
                    generalize own u + bel par l0 u = rr at *
                    have RN4' := Lib.hid RN4
                    clear CP4 RN4 r6' hu1 hu hum hfirm
                    go_wp2_with fail
                    with_reducible refine HRf.out.mono ?_
                    rintro e w5 ⟨rfl, h5, f5⟩
                    have CP5 := Lib.hid h5
                    have RN5 := Lib.hid (RN4'.out.frq f5 OK.out.q)
                    have F5 := Lib.hid (F4.out.step f5 (fun k hk => .inr (HQ.out k hk)))
                    have hB5 : wb ≤ w5.heap.size := Nat.le_trans hB0 f5.size
                    have y5 := (f5.cell (p := ⟨yb, 2, none⟩) (cell_lt y2) hybq).trans y2
                    clear h5 f5 HRf RN4' F4 y0 y2 hB0
                    have hmd := Lib.hid (show Calls Tryz.prog 15 #[.pointer (some ⟨q.m, 0, none⟩), .int .i64 u, .string sS] w5 _ from by
                      have := c_made CP5.out (p := u) UL.out HS.out (fun _ => by have := hown u; omega)
                      rw [HsS.out] at this
                      exact this)
                    go_wp2_with fail
                    with_reducible refine hmd.out.mono ?_
                    rintro e w6 ⟨x, rfl, hx20, f6, hc⟩
                    have F6 := Lib.hid (F5.out.step f6 (fun k hk => .inr (HQ.out k hk)))
                    have HR6 := Lib.hid (RN5.out.frq f6 OK.out.q)
                    have hB6 : wb ≤ w6.heap.size := Nat.le_trans hB5 f6.size
                    clear f6 RN5 CP5 F5 hmd
                    as_aux_lemma =>
                      rcases hc with ⟨rfl, fr6, hc⟩ | ⟨hx0, hc⟩
                      · have HC := Lib.hid hc
                        clear hc
                        go_wp2_with fail
                        go_meet
                        exact ⟨m, a4, a5, a6, c4, c5, c6, rfl, rfl, rfl, by omega, Lib.hid ⟨l0, l0, par, own, nm, fr6, hl0, HC.out, HR6.out, fun y => Nat.le_trans (hown y) (by omega), .refl l0, HND.out⟩, F6, Lib.hid hB6⟩
                      · have bx : decide ((0 : Int) < x) = true := by simp; omega
                        have bx' : decide (0 < x) = true := by simp; omega
                        have HC := Lib.hid (c_held hc)
                        have HXL := Lib.hid (show x ∉ l0 from by
                          obtain ⟨refs, B, fr, h1, h2, _⟩ := hc
                          exact h2)
                        clear hc
                        go_wp2_with fail
                        with_reducible refine HC.out.mono ?_
                        rintro e w7 ⟨rfl, f7, fr7, h7⟩
                        have H7 := Lib.hid h7
                        have HND7 := Lib.hid h7.nd
                        have F7 := Lib.hid (F6.out.step f7 (fun k hk => .inr (HQ.out k hk)))
                        have HR7 := Lib.hid ((HR6.out.frq f7 OK.out.q).congr (own' := up own x 1) (par' := up par x u) (fun y hy => up_ne _ _ (fun e => HXL.out (by rw [← e]; exact hy))) (fun y hy => up_ne _ _ (fun e => HXL.out (by rw [← e]; exact hy))))
                        have hB7 : wb ≤ w7.heap.size := Nat.le_trans hB6 f7.size
                        clear f7 h7 HC HR6 F6
                        have ra := Lib.hid HR7.out.a
                        have rs := Lib.hid HR7.out.s
                        have rm := Lib.hid HR7.out.m
                        have l1 : l0.length ≤ 1048576 := by omega
                        have l2 : (l0.map (up par x u)).length ≤ 1048576 := by rw [List.length_map]; omega
                        have l3 : (l0.map (up own x 1)).length ≤ 1048576 := by rw [List.length_map]; omega
                        as_aux_lemma =>
                          go_wp2_with (first | (at_builtin; refine wpList_append2 rfl _ _ rfl rfl wb _ _ rfl x w7 rfl ra.out rfl l1 hB7 ?_; intro z1 q1 W1 hO1 hF1 hob1; have hs9 : wb ≤ W1.heap.size := Nat.le_trans hB7 hF1.size; have rs1 := Lib.hid (rs.out.dj hF1 HR7.out.d12); have rm1 := Lib.hid (rm.out.dj hF1 HR7.out.d13)) | (at_builtin; refine wpList_append2 rfl _ _ rfl rfl wb _ _ rfl u W1 rfl rs1.out rfl l2 hs9 ?_; intro z2 q2 W2 hO2 hF2 hob2; have hs10 : wb ≤ W2.heap.size := Nat.le_trans hs9 hF2.size; have rm2 := Lib.hid (rm1.out.dj hF2 HR7.out.d23)) | (at_builtin; refine wpList_append2 rfl _ _ rfl rfl wb _ _ rfl 1 W2 rfl rm2.out rfl l3 hs10 ?_; intro z3 q3 W3 hO3 hF3 hob3) | fail)
                          rw [List.length_map] at hO2 hO3
                          have hO2' : W2.ownsRow wb 3 1 (.slice (some ⟨z2, 0, none⟩) (l0.length + 1) q2) (l0.map (up par x u) ++ [up par x u x]).length (intC (l0.map (up par x u) ++ [up par x u x])) := by rw [up_same]; exact hO2
                          have hO3' : W3.ownsRow wb 3 1 (.slice (some ⟨z3, 0, none⟩) (l0.length + 1) q3) (l0.map (up own x 1) ++ [up own x 1 x]).length (intC (l0.map (up own x 1) ++ [up own x 1 x])) := by rw [up_same]; exact hO3
                          have hRN := (RN.app (x := x) HR7.out rfl hO1 hF1 hob1 hO2' hF2 hob2 hO3' hF3 hob3)
                          rw [hl0] at hRN
                          have HRN := Lib.hid hRN
                          have H8 := Lib.hid (((H7.out.frL OK.out hF1 (fun k hk => (ra.out.lt k (ownS_mem hk)).1)).frL OK.out hF2 (fun k hk => (rs1.out.lt k (ownS_mem hk)).1)).frL OK.out hF3 (fun k hk => (rm2.out.lt k (ownS_mem hk)).1))
                          have F8 := Lib.hid (((F7.out.step hF1 (fun k hk => .inr (Nat.le_trans HWB.out (ra.out.lt k (ownS_mem hk)).1))).step hF2 (fun k hk => .inr (Nat.le_trans HWB.out (rs1.out.lt k (ownS_mem hk)).1))).step hF3 (fun k hk => .inr (Nat.le_trans HWB.out (rm2.out.lt k (ownS_mem hk)).1)))
                          have hB8 : wb ≤ W3.heap.size := Nat.le_trans hs10 hF3.size
                          clear hRN hO1 hO2 hO3 hO2' hO3' hF1 hF2 hF3 hob1 hob2 hob3 rs1 rm1 rm2 ra rs rm H7 HR7
                          go_meet
                          exact ⟨m + 1, some ⟨z1, 0, none⟩, some ⟨z2, 0, none⟩, some ⟨z3, 0, none⟩, q1, q2, q3, rfl, rfl, rfl, by omega, Lib.hid ⟨l0 ++ [x], l0 ++ [x], up par x u, up own x 1, up nm x (ds.map lowB :: nm u), fr7, by simp [hl0], H8.out, HRN.out, fun y => by
                            by_cases e : y = x
                            · rw [e, up_same]; omega
                            · rw [up_ne _ _ e]; exact Nat.le_trans (hown y) (by omega), .refl _, HND7.out⟩, F8, Lib.hid hB8⟩
                  · have := hum h
                    subst this
                    have CP5 := Lib.hid CP4
                    have RN5 := Lib.hid RN4
                    have F5 := Lib.hid F4.out
                    have hB5 := hB0
                    clear CP4 RN4 F4 r6' hu hum hB0
                    have hmd := Lib.hid (show Calls Tryz.prog 15 #[.pointer (some ⟨q.m, 0, none⟩), .int .i64 0, .string sS] V _ from by
                      have := c_made CP5.out (p := 0) UL.out HS.out (fun _ => by have := hown 0; omega)
                      rw [HsS.out] at this
                      exact this)
                    go_wp2_with fail
                    with_reducible refine hmd.out.mono ?_
                    rintro e w6 ⟨x, rfl, hx20, f6, hc⟩
                    have F6 := Lib.hid (F5.out.step f6 (fun k hk => .inr (HQ.out k hk)))
                    have HR6 := Lib.hid (RN5.out.frq f6 OK.out.q)
                    have hB6 : wb ≤ w6.heap.size := Nat.le_trans hB5 f6.size
                    clear f6 RN5 CP5 F5 hmd
                    as_aux_lemma =>
                      rcases hc with ⟨rfl, fr6, hc⟩ | ⟨hx0, hc⟩
                      · have HC := Lib.hid hc
                        clear hc
                        go_wp2_with fail
                        go_meet
                        exact ⟨m, a4, a5, a6, c4, c5, c6, rfl, rfl, rfl, by omega, Lib.hid ⟨l0, l0, par, own, nm, fr6, hl0, HC.out, HR6.out, fun y => Nat.le_trans (hown y) (by omega), .refl l0, HND.out⟩, F6, Lib.hid hB6⟩
                      · have bx : decide ((0 : Int) < x) = true := by simp; omega
                        have bx' : decide (0 < x) = true := by simp; omega
                        have HC := Lib.hid (c_held hc)
                        have HXL := Lib.hid (show x ∉ l0 from by
                          obtain ⟨refs, B, fr, h1, h2, _⟩ := hc
                          exact h2)
                        clear hc
                        go_wp2_with fail
                        with_reducible refine HC.out.mono ?_
                        rintro e w7 ⟨rfl, f7, fr7, h7⟩
                        have H7 := Lib.hid h7
                        have HND7 := Lib.hid h7.nd
                        have F7 := Lib.hid (F6.out.step f7 (fun k hk => .inr (HQ.out k hk)))
                        have HR7 := Lib.hid ((HR6.out.frq f7 OK.out.q).congr (own' := up own x 1) (par' := up par x 0) (fun y hy => up_ne _ _ (fun e => HXL.out (by rw [← e]; exact hy))) (fun y hy => up_ne _ _ (fun e => HXL.out (by rw [← e]; exact hy))))
                        have hB7 : wb ≤ w7.heap.size := Nat.le_trans hB6 f7.size
                        clear f7 h7 HC HR6 F6
                        have ra := Lib.hid HR7.out.a
                        have rs := Lib.hid HR7.out.s
                        have rm := Lib.hid HR7.out.m
                        have l1 : l0.length ≤ 1048576 := by omega
                        have l2 : (l0.map (up par x 0)).length ≤ 1048576 := by rw [List.length_map]; omega
                        have l3 : (l0.map (up own x 1)).length ≤ 1048576 := by rw [List.length_map]; omega
                        as_aux_lemma =>
                          go_wp2_with (first | (at_builtin; refine wpList_append2 rfl _ _ rfl rfl wb _ _ rfl x w7 rfl ra.out rfl l1 hB7 ?_; intro z1 q1 W1 hO1 hF1 hob1; have hs9 : wb ≤ W1.heap.size := Nat.le_trans hB7 hF1.size; have rs1 := Lib.hid (rs.out.dj hF1 HR7.out.d12); have rm1 := Lib.hid (rm.out.dj hF1 HR7.out.d13)) | (at_builtin; refine wpList_append2 rfl _ _ rfl rfl wb _ _ rfl 0 W1 rfl rs1.out rfl l2 hs9 ?_; intro z2 q2 W2 hO2 hF2 hob2; have hs10 : wb ≤ W2.heap.size := Nat.le_trans hs9 hF2.size; have rm2 := Lib.hid (rm1.out.dj hF2 HR7.out.d23)) | (at_builtin; refine wpList_append2 rfl _ _ rfl rfl wb _ _ rfl 1 W2 rfl rm2.out rfl l3 hs10 ?_; intro z3 q3 W3 hO3 hF3 hob3) | fail)
                          rw [List.length_map] at hO2 hO3
                          have hO2' : W2.ownsRow wb 3 1 (.slice (some ⟨z2, 0, none⟩) (l0.length + 1) q2) (l0.map (up par x 0) ++ [up par x 0 x]).length (intC (l0.map (up par x 0) ++ [up par x 0 x])) := by rw [up_same]; exact hO2
                          have hO3' : W3.ownsRow wb 3 1 (.slice (some ⟨z3, 0, none⟩) (l0.length + 1) q3) (l0.map (up own x 1) ++ [up own x 1 x]).length (intC (l0.map (up own x 1) ++ [up own x 1 x])) := by rw [up_same]; exact hO3
                          have hRN := (RN.app (x := x) HR7.out rfl hO1 hF1 hob1 hO2' hF2 hob2 hO3' hF3 hob3)
                          rw [hl0] at hRN
                          have HRN := Lib.hid hRN
                          have H8 := Lib.hid (((H7.out.frL OK.out hF1 (fun k hk => (ra.out.lt k (ownS_mem hk)).1)).frL OK.out hF2 (fun k hk => (rs1.out.lt k (ownS_mem hk)).1)).frL OK.out hF3 (fun k hk => (rm2.out.lt k (ownS_mem hk)).1))
                          have F8 := Lib.hid (((F7.out.step hF1 (fun k hk => .inr (Nat.le_trans HWB.out (ra.out.lt k (ownS_mem hk)).1))).step hF2 (fun k hk => .inr (Nat.le_trans HWB.out (rs1.out.lt k (ownS_mem hk)).1))).step hF3 (fun k hk => .inr (Nat.le_trans HWB.out (rm2.out.lt k (ownS_mem hk)).1)))
                          have hB8 : wb ≤ W3.heap.size := Nat.le_trans hs10 hF3.size
                          clear hRN hO1 hO2 hO3 hO2' hO3' hF1 hF2 hF3 hob1 hob2 hob3 rs1 rm1 rm2 ra rs rm H7 HR7
                          go_meet
                          exact ⟨m + 1, some ⟨z1, 0, none⟩, some ⟨z2, 0, none⟩, some ⟨z3, 0, none⟩, q1, q2, q3, rfl, rfl, rfl, by omega, Lib.hid ⟨l0 ++ [x], l0 ++ [x], up par x 0, up own x 1, up nm x (ds.map lowB :: nm 0), fr7, by simp [hl0], H8.out, HRN.out, fun y => by
                            by_cases e : y = x
                            · rw [e, up_same]; omega
                            · rw [up_ne _ _ e]; exact Nat.le_trans (hown y) (by omega), .refl _, HND7.out⟩, F8, Lib.hid hB8⟩
            case rest =>
              obtain ⟨m1, b4, b5, b6, d4, d5, d6, rfl, rfl, rfl, hm1, hMH, F5, hB5⟩ := hcut
              have HLf := Lib.hid (hMH.out.left hm1 hB5.out)
              clear hMH CP4 RN4 F4 r6' hu hum y0 y2 hB0
              go_wp2_with fail
              with_reducible refine HLf.out.mono ?_
              rintro e w7 ⟨m2, g4, g5, g6, f4, f5, f6, rfl, k7, fr7⟩
              have K7 := Lib.hid k7
              have F7 := Lib.hid (F5.out.trans fr7)
              have hB7 := Lib.hid (Nat.le_trans hB5.out fr7.size)
              have hm2 := k7.few
              clear k7 fr7 F5 hB5 HLf
              go_wp2_with fail
              go_loopg [14] (m2 + 1) (fun gk v14 W => ∃ j : Nat, v14 = .int .i64 j ∧ (j + gk = m2 + 1 ∧ j ≤ m2) ∧ Hid (KHn wa q u0 wb (.slice g4 m2 f4) (.slice g5 m2 f5) (.slice g6 m2 f6) m2 (i + 1) W) ∧ Hid (Fr [] w W) ∧ Hid (wb ≤ W.heap.size))
              case atStart => exact ⟨0, rfl, by omega, K7, F7, hB7⟩
              case round =>
                clear K7 F7 hB7
                obtain ⟨j, rfl, hj, K8, F8, hB8⟩ := hrel
                by_cases hlt2 : j < m2
                · obtain ⟨l2, par2, own2, nm2, fr2, hl2, hCP2, hRN2, hown2⟩ := K8.out
                  obtain ⟨r4, r5, r6⟩ := hRN2.rowsV hl2
                  obtain ⟨x, hx⟩ : ∃ x, l2[j]? = some x := ⟨_, List.getElem?_eq_getElem (by omega)⟩
                  have hxm := List.mem_of_getElem? hx
                  obtain ⟨z4, rfl, C4⟩ := r4.look hx
                  obtain ⟨z6, rfl, C6⟩ := r6.look (c := own2 x) (by rw [List.getElem?_map, hx]; rfl)
                  have hY := And.intro (C4 wr.drew ((Fr.refl [] wr).drew)) (C6 wr.drew ((Fr.refl [] wr).drew))
                  obtain ⟨hI4, hz4⟩ := hRN2.a.rowI (by omega)
                  obtain ⟨hI6, hz6⟩ := hRN2.m.rowI (by rw [List.length_map]; omega)
                  have hz4q : z4 ∉ q.blocks := fun hm => by have := OK.out.q _ hm; omega
                  have hz6q : z6 ∉ q.blocks := fun hm => by have := OK.out.q _ hm; omega
                  have hz4V := hI4.lt
                  have hz6V := hI6.lt
                  have HRf := Lib.hid (c_refs (hCP2.fr0 ((Fr.refl [] wr).drew)) hxm)
                  have R8 := Lib.hid (hRN2.fr0 ((Fr.refl [] wr).drew))
                  have HBl := Lib.hid (fun W (hW : RN wb (.slice (some ⟨z4, 0, none⟩) m2 f4) (.slice g5 m2 f5) (.slice (some ⟨z6, 0, none⟩) m2 f6) l2 own2 par2 W) => (show Calls Tryz.prog 17 #[.slice g5 m2 f5, .int .i64 x] W fun e w' => e = .returned (.int .i64 (bel par2 l2 x)) ∧ w' = W from by
                    obtain ⟨r4, r5, r6⟩ := hW.rowsV hl2
                    have := hbelow W g5 f5 (l2.map par2) 0 x r5 (by rw [List.length_map]; omega)
                    rw [List.length_map, hl2, cnt_bel] at this
                    exact this))
                  have hox := hown2 x
                  have hbx := bel_le par2 l2 x
                  have HK9 := Lib.hid (fun W (h1 : CP wa q u0 l2 par2 own2 nm2 fr2 W) (h2 : RN wb (.slice (some ⟨z4, 0, none⟩) m2 f4) (.slice g5 m2 f5) (.slice (some ⟨z6, 0, none⟩) m2 f6) l2 own2 par2 W) => (show KHn wa q u0 wb (.slice (some ⟨z4, 0, none⟩) m2 f4) (.slice g5 m2 f5) (.slice (some ⟨z6, 0, none⟩) m2 f6) m2 (i + 1) W from ⟨l2, par2, own2, nm2, fr2, hl2, h1, h2, hown2⟩))
                  generalize bel par2 l2 x = bl at *
                  generalize own2 x = ox at *
                  have wx : IntKind.i64.wrap ((ox : Int) + bl) = ((ox + bl : Nat) : Int) := by rw [IntWalk.i64_in _ (by omega)]; push_cast; rfl
                  have bn : (((ox + bl : Nat) : Int) != ((ox + bl : Nat) : Int)) = false := by simp
                  generalize ox + bl = rr at *
                  have b6 : decide ((j : Int) < m2) = true := by simp; omega
                  have b6' : decide (j < m2) = true := by simp; omega
                  have j0 : (0 : Int) ≤ j := by omega
                  have j1 : (j : Int) < m2 := by omega
                  have wj : IntKind.i64.wrap ((j : Int) + 1) = (j : Int) + 1 := IntWalk.i64_in _ (by omega)
                  clear hCP2 hRN2 hown2 hl2 r4 r5 r6 C4 C6 hI4 hI6 hx hxm K8
                  as_aux_lemma =>
                    go_wp2_with fail
                    refine wp_region_held_drew (S := fun W => W.cell? ⟨z4, j, none⟩ = some (.int .i64 x) ∧ W.cell? ⟨z6, j, none⟩ = some (.int .i64 ox)) (by kernel_rfl) (hY) (fun yH => ?_)
                    refine tkY 0 yH (h := ?_)
                    refine tkY 1 yH (h := ?_)
                    refine tkY 2 yH (h := ?_)
                    refine tkY 3 yH (h := ?_)
                    refine tkY 4 yH (h := ?_)
                    refine tkY 6 yH (h := ?_)
                    refine tkY 7 yH (h := ?_)
                    refine tkY 8 yH (h := ?_)
                    refine tkY 9 yH (h := ?_)
                    refine tkY 10 yH (h := ?_)
                    refine tkY 11 yH (h := ?_)
                    refine tkY 12 yH (h := ?_)
                    refine tkY 13 yH (h := ?_)
                    refine tkY 14 yH (h := ?_)
                    refine wpAnyH_ready (rs := [5]) (by kernel_rfl) (by simp) ?_
                    refine AllReadyH.cons (o := ?oorc14) ?hirc14 (fun K hK => ?hcrc14) AllReadyH.nil
                    case hirc14 => (simp only [List.getElem?_toArray, List.getElem?_cons_zero, List.getElem?_cons_succ]; rfl)
                    go_simp
                    with_reducible refine HRf.out.mono ?_
                    rintro e w9 ⟨rfl, h9, f9⟩
                    have H9 := Lib.hid h9
                    have R9 := Lib.hid (R8.out.frq f9 OK.out.q)
                    have F9 := Lib.hid ((F8.out.drew).step f9 (fun k hk => .inr (HQ.out k hk)))
                    have hB9 : wb ≤ w9.heap.size := Nat.le_trans hB8.out f9.size
                    have hY := And.intro ((f9.cell (p := ⟨z4, j, none⟩) (by exact hz4V) hz4q).trans hY.1) ((f9.cell (p := ⟨z6, j, none⟩) (by exact hz6V) hz6q).trans hY.2)
                    clear h9 f9
                    go_wp2_with fail
                    refine hK.out _ _ (hY) (fun yH => ?_)
                    clear hK K
                    try simp only [Act.put, List.setIfInBounds_toArray, List.set_cons_zero, List.set_cons_succ]
                    refine wpAnyH_ready (rs := [15]) (by kernel_rfl) (by simp) ?_
                    refine AllReadyH.cons (o := ?oorc15) ?hirc15 (fun K hK => ?hcrc15) AllReadyH.nil
                    case hirc15 => (simp only [List.getElem?_toArray, List.getElem?_cons_zero, List.getElem?_cons_succ]; rfl)
                    go_simp
                    with_reducible refine (HBl.out _ R9.out).mono ?_
                    rintro e w10 ⟨rfl, he⟩
                    rw [he]
                    clear he
                    go_wp2_with fail
                    refine hK.out _ _ (hY) (fun yH => ?_)
                    clear hK K
                    try simp only [Act.put, List.setIfInBounds_toArray, List.set_cons_zero, List.set_cons_succ]
                    refine tkY 16 yH (h := ?_)
                    refine tkY 17 yH (h := ?_)
                    refine wpAnyH_done (by kernel_rfl) ?_ _
                    try simp only [Act.put, List.getElem_toArray, List.getElem_cons_zero, List.getElem_cons_succ, List.setIfInBounds_toArray, List.set_cons_zero, List.set_cons_succ]
                    go_wp2_with fail
                    go_roundg (gk - 1)
                    case measure => omega
                    case rel => exact ⟨j + 1, by go_num, by omega, Lib.hid (HK9.out _ H9.out R9.out), F9, Lib.hid hB9⟩
                · obtain rfl : j = m2 := by omega
                  have b6 : decide ((j : Int) < j) = false := by simp
                  have b6' : decide (j < j) = false := by simp
                  obtain ⟨l2, par2, own2, nm2, fr2, hl2, hCP2, hRN2, hown2⟩ := K8.out
                  have HCo := Lib.hid (c_count hCP2)
                  rw [hl2] at HCo
                  have bn : (((j : Nat) : Int) != ((j : Nat) : Int)) = false := by simp
                  have HR2 := Lib.hid hRN2
                  clear hCP2 hRN2 K8
                  as_aux_lemma =>
                    go_wp2_with fail
                    with_reducible refine HCo.out.mono ?_
                    rintro e w9 ⟨rfl, h9, f9⟩
                    have H9 := Lib.hid h9
                    have R9 := Lib.hid (HR2.out.frq f9 OK.out.q)
                    have F9 := Lib.hid (F8.out.step f9 (fun k hk => .inr (HQ.out k hk)))
                    have hB9 : wb ≤ w9.heap.size := Nat.le_trans hB8.out f9.size
                    clear h9 f9
                    go_wp2_with fail
                    go_roundg (G - 1)
                    case measure => omega
                    case rel => exact ⟨i + 1, j, g4, g5, g6, f4, f5, f6, rfl, rfl, rfl, by go_num, by omega, Lib.hid ⟨l2, par2, own2, nm2, fr2, hl2, H9.out, R9.out, hown2⟩, F9, Lib.hid hB9⟩
      · obtain rfl : i = n := by omega
        have b6 : decide ((i : Int) < i) = false := by simp
        have b6' : decide (i < i) = false := by simp
        obtain ⟨l0, par, own, nm, fr, hl0, hCP, hRN, hown⟩ := KH.out
        have HFl := Lib.hid (c_flt hCP)
        clear hCP hRN hown hl0 KH
        go_wp2_with fail
        with_reducible refine HFl.out.mono ?_
        rintro e w6 ⟨rfl, n6, f6⟩
        have F6 := Lib.hid (F3.out.step f6 (fun k hk => .inr (HQ.out k hk)))
        clear n6 f6 F3 HFl
        go_wp2_with fail
        with_reducible refine (HGo.out _ F6.out).mono ?_
        rintro e w7 ⟨rfl, f7⟩
        have F7 := Lib.hid (F6.out.trans f7)
        clear f7
        go_wp2_with fail
        go_ret
        exact ⟨rfl, F7.out⟩
theorem walk_nheldW (w : World) (h : TabM w ∧ Tabs w) (ad : Option Addr) (cap : Nat) (l : List A21) (hA : ActA21 w ad cap l) : Calls Tryz.prog 3 #[.slice ad l.length cap] w fun e w' => e = .returned (.bool true) ∧ Fr [] w w' := walk_nheld w h.1 h.2 ad cap l hA
end Go.Proofs.YtellbfamofilaaaGreatDoor
