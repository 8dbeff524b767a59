/- Layer 10: ArenaPlays. -/
import Derived.Test.YtcagljjbiodcoaaLaw10f
import Derived.Test.YtcagljjbiodcoaaOpen10
namespace Go.Proofs.Ytcagljjbiodcoaa
set_option linter.unusedVariables false
open Go.RowKit

theorem plays_a (w : World) (hG : Glb w) (n : Int) (a : Option Addr) (len cap : Nat) (h1 : 1024 < n) (h2 : n ≤ 1048576) :
    Calls Try.prog 5 #[.int .i64 n, .slice a len cap] w fun e w' => e = .returned (.bool true) ∧ Fr [] w w' := by
  have hh := fun w hG => holds10 w hG
  have b1 : decide (1024 < n) = true := by simpa using h1
  have b2 : decide (n ≤ 1048576) = true := by simpa using h2
  clear h1 h2
  go_enter Try.func5, Try.ntmps5
  go_wp2_with fail
  with_reducible refine (hh _ hG).mono ?_
  rintro e w1 ⟨rfl, f1⟩
  go_wp2_with fail
  go_ret
  exact ⟨rfl, f1⟩
theorem plays_b (w : World) (hG : Glb w) (n : Int) (a : Option Addr) (len cap : Nat) (r : Bool)
    (hF : Calls Try.prog 16 #[.int .i64 0, .slice a len cap] w fun e w' => e = .returned (.bool r) ∧ w' = w)
    (hA : decide (1024 < n) = false ∨ (decide (1024 < n) = true ∧ decide (n ≤ 1048576) = false)) (hr : r = true → amayB n = false) :
    Calls Try.prog 5 #[.int .i64 n, .slice a len cap] w fun e w' => e = .returned (.bool true) ∧ Fr [] w w' := by
  have hh := fun w hG => holds10 w hG
  have h1 := fun w h => anew_no w n h
  have h2 := fun w h => xnew_no w n h
  cases r
  · clear hr h1 h2
    rcases hA with b1 | ⟨b1, b2⟩
    all_goals
      go_enter Try.func5, Try.ntmps5
      go_wp2_with fail
      with_reducible refine hF.mono ?_
      rintro e w' ⟨rfl, rfl⟩
      go_wp2_with fail
      with_reducible refine (hh _ hG).mono ?_
      rintro e w1 ⟨rfl, f1⟩
      go_wp2_with fail
      go_ret
      exact ⟨rfl, f1⟩
  · have hno := hr rfl
    clear hr
    rcases hA with b1 | ⟨b1, b2⟩
    all_goals
      go_enter Try.func5, Try.ntmps5
      go_wp2_with fail
      with_reducible refine hF.mono ?_
      rintro e w' ⟨rfl, rfl⟩
      go_wp2_with fail
      with_reducible refine (h1 _ hno).mono ?_
      rintro e w' ⟨rfl, rfl⟩
      go_wp2_with fail
      with_reducible refine (h2 _ hno).mono ?_
      rintro e w' ⟨rfl, rfl⟩
      go_wp2_with fail
      with_reducible refine (hh _ hG).mono ?_
      rintro e w1 ⟨rfl, f1⟩
      go_wp2_with fail
      go_ret
      exact ⟨rfl, f1⟩

theorem aimage_x (w : World) (p g cap : Nat) (l : List Nat) (h : IsA w p g cap l) :
    Calls Try.prog 10 #[.pointer (some ⟨p, 0, none⟩)] w fun e w' => ∃ g' cap', e = .returned (.slice (some ⟨g', 0, none⟩) l.length cap') ∧ w.heap.size ≤ g' ∧ RowB w' g' cap' l ∧ Fr [] w w' :=
  (aimage_any w p g cap l h).mono fun e w' ⟨v, he, g', cap', hv, h1, h2, h3⟩ => ⟨g', cap', hv ▸ he, h1, h2, h3⟩

def PlayRel10 (w0 : World) (p g cap B q n len : Nat) (i : Value) (wr : World) : Prop :=
  ∃ t : Nat, t ≤ len ∧ i = .int .i64 t ∧ ∃ l, Duo wr p g cap B q l ∧ l.length = n ∧ Fr [] w0 wr
theorem Row10.fr {w w' : World} {b o : Nat} {d : A10} {S : List Nat} (h : Row10 w b o d) (hf : Fr S w w') (hb : b < w.heap.size) (hS : b ∉ S) : Row10 w' b o d :=
  have e : ∀ k, w'.cell? ⟨b, k, none⟩ = w.cell? ⟨b, k, none⟩ := fun k => hf.cell (p := ⟨b, k, none⟩) hb hS
  ⟨(e _).trans h.c0, (e _).trans h.c1, (e _).trans h.c2, (e _).trans h.c3, (e _).trans h.c4, (e _).trans h.c5, (e _).trans h.c6⟩
theorem Row10.all {W : World} {b o c v bl : Nat} {k x y m wd : Int} {da : Option Addr} {bs : List Nat} (h : Row10 W b o ⟨k, x, y, m, wd, v, da, c, bs⟩) (hbl : bs.length = bl) : W.cell? ⟨b, o, none⟩ = some (.int .i64 k) ∧ W.cell? ⟨b, o + 1, none⟩ = some (.int .i64 x) ∧ W.cell? ⟨b, o + 2, none⟩ = some (.int .i64 y) ∧ W.cell? ⟨b, o + 3, none⟩ = some (.int .i64 m) ∧ W.cell? ⟨b, o + 4, none⟩ = some (.int .i64 wd) ∧ W.cell? ⟨b, o + 5, none⟩ = some (.int .u64 v) ∧ W.cell? ⟨b, o + 6, none⟩ = some (.slice da bl c) :=
  ⟨h.c0, h.c1, h.c2, h.c3, h.c4, h.c5, hbl ▸ h.c6⟩

set_option maxRecDepth 100000 in
set_option maxHeartbeats 8000000 in
theorem plays_c (w : World) (hG : Glb w) (n : Nat) (hn : amayB n = true) (hn1 : n ≤ 1024) (a : Option Addr) (cap : Nat) (l : List A10) (hA : ActA10 w a cap l) (hb3 : ∀ d ∈ l, d.b.length ≤ 3000) (hl60 : l.length ≤ 60)
    (hF : Calls Try.prog 16 #[.int .i64 0, .slice a l.length cap] w fun e w' => e = .returned (.bool true) ∧ w' = w) :
    Calls Try.prog 5 #[.int .i64 n, .slice a l.length cap] w fun e w' => e = .returned (.bool true) ∧ Fr [] w w' := by
  have hh := fun w hG => holds10 w hG
  have h1 := fun w => anew_yes w n hn
  have h2 := fun w => xnew_yes w n hn
  have hlen := fun w p g c l h => alen_any w p g c l h
  have b1 : decide ((1024 : Int) < n) = false := by simp; omega
  have b1' : decide (1024 < n) = false := by simp; omega
  have hrl : (List.replicate n 0).length = n := by simp
  have HA := Lib.hid hA
  have HG := Lib.hid hG
  have HB3 := Lib.hid hb3
  have HR := Lib.hid hrl
  generalize hlen2 : l.length = len at *
  have HL := Lib.hid hlen2
  clear hn hA hG hb3 hlen2 hrl
  go_enter Try.func5, Try.ntmps5
  go_wp2_with fail
  with_reducible refine hF.mono ?_
  rintro e w' ⟨rfl, rfl⟩
  clear hF
  go_wp2_with fail
  with_reducible refine (h1 _).mono ?_
  rintro e w1 ⟨p, g, rfl, i1, hp, hg, f1⟩
  clear h1
  go_wp2_with fail
  with_reducible refine (h2 _).mono ?_
  rintro e w2 ⟨q, rfl, i2, f2⟩
  clear h2
  have hD : Duo w2 p g n w1.heap.size q (List.replicate n 0) := ⟨i1.fr f2 (by simp) (by simp), i2, f2.size, i1.st.lt, i1.row.lt⟩
  have f02 := f1.trans f2
  have hBw := f1.size
  have hBq := hD.qB
  clear i1 i2
  generalize w1.heap.size = B at *
  have START : PlayRel10 w' p g n B q n len (.int .i64 0) w2 := ⟨0, by omega, rfl, _, hD, HR.out, f02⟩
  clear hD HR f1 f2 f02
  go_wp2_with fail
  go_loopw [7] (fun i wr => PlayRel10 w' p g n B q n len i wr) (fun i _ => len - (intOf i).toNat)
  case atStart => exact START
  case round =>
    clear START
    obtain ⟨t, ht, rfl, lb, hD, hln, hf⟩ := hrel
    by_cases hlt : t < len
    · obtain ⟨b, off, rfl, hb, hrow⟩ := HA.out.acts.row (by rw [HL.out]; omega)
      have htl : t < l.length := by rw [HL.out]; exact hlt
      have hr := (hrow t htl).fr (hf.drew) hb (by simp)
      obtain ⟨hv, hby⟩ := HA.out.acts.each _ (List.getElem_mem htl)
      have hbb := HB3.out _ (List.getElem_mem htl)
      have hlow : l[t].b ≠ [] → ∀ g' o', l[t].a = some ⟨g', o', none⟩ → g' ≠ g ∧ g' ≠ q := fun h0 g' o' e => by
        obtain ⟨g2, o2, e2, _, h3⟩ := hby.at_ 0 (List.length_pos_iff.2 h0)
        rw [e2] at e
        injection e with e
        injection e with e3 e4
        omega
      have hact := act_any wr.drew p g n B q lb (hD.fr0 frDrew) ((HG.out.fr0 hf).fr0 frDrew) l[t] hv ((hby.byt (by omega)).fr (hf.drew) (by simp)) hbb hlow
      rw [hln] at hact
      generalize l[t] = d at *
      obtain ⟨k, x, y, m, wd, v, da, c, bs⟩ := d
      have hact2 : Calls Try.prog 18 #[.pointer (some ⟨p, 0, none⟩), .pointer (some ⟨q, 0, none⟩), .agg #[.int .i64 k, .int .i64 x, .int .i64 y, .int .i64 m, .int .i64 wd, .int .u64 v, .slice da bs.length c]] wr.drew (fun e w' => e = .returned (.bool true) ∧ ∃ l', Duo w' p g n B q l' ∧ l'.length = n ∧ Fr [g, q] wr.drew w') := hact
      generalize hbl : bs.length = bl at *
      have HBL := Lib.hid hbl
      have hY := hr.all hbl
      have HR := Lib.hid hr
      have hbr : b < wr.drew.heap.size := Nat.lt_of_lt_of_le hb hf.size
      have hbg : b ≠ g ∧ b ≠ q := by omega
      clear hr hbl
      have HACT := Lib.hid hact2
      have HF := Lib.hid hf
      have HD := Lib.hid hD
      clear hact hact2 hf hD hv hby hbb hlow hrow
      have hg2 : (0 : Int) ≤ t := by omega
      have hg3 : (t : Int) < len := by omega
      go_wp2_with fail
      obtain ⟨c0, c1, c2, c3, c4, c5, c6⟩ := hY
      go_region_with
        (first
          | (go_at_call 18; with_reducible refine HACT.out.mono ?_; rintro e W2 ⟨rfl, l2, hD2, hl2, f2⟩; obtain ⟨gx, cx, hq2, hb2⟩ := hD2.two.cell0; have sq2 := conv_str _ _ cx _ hb2; have HI2 := Lib.hid (And.intro hD2 hb2); have FR2 := Lib.hid f2; have HR2 := HR.out.fr f2 hbr (by simp; exact hbg); have hbr2 := Nat.lt_of_lt_of_le hbr f2.size; have hY := HR2.all HBL.out; have HR3 := Lib.hid HR2; clear hb2 hD2 f2 HR2; rw [hl2] at hq2 sq2)
          | (go_at_call 10; with_reducible refine (aimage_x _ p g n _ HI2.out.1.one).mono ?_; rintro e W3 ⟨g3, cap3, rfl, hg3', hr3, f3⟩; have sv3 := conv_str _ _ cap3 _ (hr3.byt HI2.out.1.one.byte (by omega)); have sq3 := conv_str _ _ cx _ (HI2.out.2.fr f3 (by simp)); have hq3 := (f3.cell (p := ⟨q, 0, none⟩) HI2.out.1.two.lt (by simp)).trans hq2; have FR3 := Lib.hid f3; have hY := (HR3.out.fr f3 hbr2 (by simp)).all HBL.out; clear f3 hr3; rw [hl2] at sv3 sq3 ⊢))
      all_goals

        go_wp2_with fail
        go_roundw
        case rel => exact ⟨t + 1, by omega, by go_num, l2, HI2.out.1.fr0 FR3.out, hl2, (HF.out.drew.step FR2.out (by simp; omega)).trans FR3.out⟩
        case measure => simp [intOf]; omega
    · obtain rfl : t = len := by omega
      go_wp2_with fail
      with_reducible refine (hlen _ p g n _ hD.one).mono ?_
      rw [hln]
      rintro e w3 ⟨rfl, rfl⟩
      go_wp2_with fail
      with_reducible refine (hh _ (HG.out.fr0 hf)).mono ?_
      rintro e w4 ⟨rfl, f4⟩
      go_wp2_with fail
      go_ret
      exact ⟨rfl, hf.trans f4⟩
theorem walk_plays10 (w : World) (hG : Glb w) (n : Int) (a : Option Addr) (cap : Nat) (l : List A10) (hA : ActA10 w a cap l) :
    Calls Try.prog 5 #[.int .i64 n, .slice a l.length cap] w fun e w' => e = .returned (.bool true) ∧ Fr [] w w' := by
  by_cases h : 1024 < n ∧ n ≤ 1048576
  · exact plays_a w hG n a _ cap h.1 h.2
  have hc : decide (1024 < n) = false ∨ (decide (1024 < n) = true ∧ decide (n ≤ 1048576) = false) := by simp; omega
  have hF := few_any w a cap l hA.len hA.acts
  cases hfb : fewB l
  · rw [hfb] at hF
    exact plays_b w hG n a _ cap false hF hc (fun h => by cases h)
  rw [hfb] at hF
  cases hn : amayB n
  · exact plays_b w hG n a _ cap true hF hc (fun _ => hn)
  · obtain ⟨h60, hb3⟩ := fewB_each hfb
    obtain ⟨m, rfl⟩ : ∃ m : Nat, n = m := ⟨n.toNat, by unfold amayB at hn; simp at hn; omega⟩
    exact plays_c w hG m hn (by unfold amayB at hn; simp at hn; omega) a cap l hA hb3 h60 hF
end Go.Proofs.Ytcagljjbiodcoaa
