/- law21.NodeGone: the walk. -/
import Derived.Test.YtgoogihfggndpaaGreatDoorMF
import Derived.Test.YtgoogihfggndpaaGreatDoorOpenS
import Derived.Test.YtgoogihfggndpaaGreatDoorKT
import Derived.BigQuiet
namespace Go.Proofs.YtgoogihfggndpaaGreatDoor
set_option linter.unusedVariables false
set_option linter.unusedSimpArgs false
open Go.RowKit

/-- One below the other, held by none but those below. -/
structure Chn (l : List Nat) (par refs : Nat → Nat) (at_ : Nat) : Prop where
  z : l = [] → at_ = 0
  m : l ≠ [] → at_ ∈ l
  rf : ∀ y ∈ l, refs y = bel par l y
  lf : ∀ y ∈ l, y ≠ at_ → ∃ z ∈ l, par z = y
  rk : ∃ ρ : Nat → Nat, ∀ z ∈ l, par z ≠ 0 → ρ (par z) < ρ z
theorem Chn.nil (par refs : Nat → Nat) : Chn [] par refs 0 := ⟨fun _ => rfl, fun h => absurd rfl h, fun y hy => (nomatch hy), fun y hy => (nomatch hy), ⟨fun _ => 0, fun y hy => (nomatch hy)⟩⟩
theorem Chn.at0 {l : List Nat} {par refs : Nat → Nat} {a : Nat} (h : Chn l par refs a) : a = 0 ∨ a ∈ l := by
  by_cases e : l = []
  · exact .inl (h.z e)
  · exact .inr (h.m e)
theorem Chn.snoc {l : List Nat} {par refs : Nat → Nat} {a x : Nat} (h : Chn l par refs a) (hx : x ∉ l) (hx0 : x ≠ 0) (hup : ∀ y ∈ l, par y = 0 ∨ par y ∈ l) : Chn (l ++ [x]) (up par x a) (refN refs x a) x := by
  have hp : ∀ z ∈ l, up par x a z = par z := fun z hz => up_ne _ _ (fun e => hx (e ▸ hz))
  have hxa : a ≠ x := fun e => by
    rcases h.at0 with k | k
    · exact hx0 (e.symm.trans k)
    · exact hx (e ▸ k)
  refine ⟨fun e => by simp at e, fun _ => by simp, fun y hy => ?_, fun y hy hne => ?_, ?_⟩
  · rw [bel_snoc, up_same, bel_congr hp]
    unfold refN
    by_cases e : y = x
    · subst e
      rw [if_pos rfl, if_neg hxa]
      have : bel par l y = 0 := by
        by_cases h0 : bel par l y = 0
        · exact h0
        · obtain ⟨z, hz, e⟩ := bel_pos.1 h0
          rcases hup z hz with k | k
          · exact absurd (e.symm.trans k) hx0
          · exact absurd (e ▸ k) hx
      omega
    · rw [if_neg e]
      have hy' : y ∈ l := by
        rcases List.mem_append.1 hy with k | k
        · exact k
        · exact absurd (List.mem_singleton.1 k) e
      rw [h.rf y hy']
      by_cases ea : y = a
      · rw [if_pos ea, if_pos ea.symm]
      · rw [if_neg ea, if_neg (fun k => ea k.symm)]
  · have hy' : y ∈ l := by
      rcases List.mem_append.1 hy with k | k
      · exact k
      · exact absurd (List.mem_singleton.1 k) hne
    by_cases ea : y = a
    · exact ⟨x, by simp, by rw [up_same, ea]⟩
    · obtain ⟨z, hz, e⟩ := h.lf y hy' ea
      exact ⟨z, List.mem_append_left _ hz, by rw [hp z hz, e]⟩
  · obtain ⟨ρ, hr⟩ := h.rk
    refine ⟨up ρ x (ρ a + 1), fun z hz h0 => ?_⟩
    rcases List.mem_append.1 hz with k | k
    · rw [hp z k] at h0 ⊢
      rw [up_ne ρ _ (show par z ≠ x from fun e => hx (by
        rcases hup z k with k2 | k2
        · exact absurd k2 h0
        · exact e ▸ k2)), up_ne ρ _ (show z ≠ x from fun e => hx (e ▸ k))]
      exact hr z k h0
    · obtain rfl := List.mem_singleton.1 k
      rw [up_same, up_same, up_ne ρ _ hxa]
      omega
theorem firm_nil {l : List Nat} {par ρ : Nat → Nat} (h : Firm (fun _ => 0) par l) (hr : ∀ z ∈ l, par z ≠ 0 → ρ (par z) < ρ z) (h0 : ∀ y ∈ l, y ≠ 0) : l = [] := by
  have hM : ∃ M, ∀ y ∈ l, ρ y ≤ M := by
    clear h hr h0
    induction l with
    | nil => exact ⟨0, fun y hy => (nomatch hy)⟩
    | cons a l ih =>
      obtain ⟨M, hM⟩ := ih
      refine ⟨M + ρ a, fun y hy => ?_⟩
      rcases List.mem_cons.1 hy with e | e
      · rw [e]; omega
      · have := hM y e; omega
  obtain ⟨M, hM⟩ := hM
  have key : ∀ k y, y ∈ l → M - ρ y < k → False := by
    intro k
    induction k with
    | zero => intro y _ hk; omega
    | succ k ih =>
      intro y hy hk
      obtain ⟨z, hz, e⟩ := h y hy rfl
      have h1 := hr z hz (by rw [e]; exact h0 y hy)
      rw [e] at h1
      have h2 := hM z hz
      exact ih z hz (by omega)
  cases l with
  | nil => rfl
  | cons y t => exact absurd (by simp) (fun hm => key (M - ρ y + 1) y hm (by omega))
section
variable {w0 W W' : World} {q : MH} {u0 : TM} {l : List Nat} {par refs own : Nat → Nat} {B : Nat → List Nat} {fr x p a : Nat} {b : List Nat}
theorem NP.lt (h : NP w0 q u0 l par refs B fr W) : ∀ k ∈ q.blocks, k < W.heap.size := by
  obtain ⟨S, L, u, E, B0, g, _⟩ := h
  exact g.wb.lt
theorem NP.fewc (h : NP w0 q u0 l par refs B fr W) (x : Nat) : bel par l x ≤ 224 := Nat.le_trans (bel_le par l x) h.few
/-- All go. -/
theorem p_gone (h : NP w0 q u0 l par refs B fr W) (hx : a ∈ l) (hc : ∃ r, Chn l par r a ∧ refs = up r a (r a + 1)) : Calls Tryz.prog 29 #[.pointer (some ⟨q.m, 0, none⟩), .int .i64 a] W fun e w' => e = .returned (.tuple #[.int .i64 l.length, .int .i64 0]) ∧ Fr q.blocks W w' ∧ ∃ refs1, NP w0 q u0 [] par refs1 B 7 w' := by
  obtain ⟨r, hc, rfl⟩ := hc
  have hnz : ∀ y ∈ l, y ≠ 0 := fun y hy => (h.rng hy).1
  refine (p_let (own := fun _ => 0) h hx (fun y hy => ?_) (fun y hy hne _ => hc.lf y hy hne)).mono fun e w' ⟨k, l1, refs1, fr1, h1, h2, h3, h4, h5, h6, h7⟩ => ?_
  · by_cases e : y = a
    · rw [e, up_same, if_pos rfl, hc.rf a hx]; omega
    · rw [up_ne _ _ e, if_neg e, hc.rf y hy]; omega
  · obtain ⟨ρ, hr⟩ := hc.rk
    have hs := h4.sub.subset
    obtain rfl := firm_nil (ρ := ρ) h7 (fun z hz => hr z (hs hz)) (fun y hy => hnz y (hs hy))
    have hk : k = l.length := by simpa using h5
    subst hk
    have := h3.empty
    subst this
    exact ⟨h1, h2, refs1, h3⟩
set_option maxRecDepth 100000 in
set_option maxHeartbeats 8000000 in
theorem walk_ngone (w : World) (hM : TabM w) (hT : Tabs w) (ad : Option Addr) (cap : Nat) (ls : List (List Nat)) (hA : StrA w ad ls) : Calls Tryz.prog 7 #[.slice ad ls.length cap] w fun e w' => e = .returned (.bool true) ∧ Fr [] w w' := by
  have HGo := Lib.hid (fun V (hV : Fr [] w V) => (show Calls Tryz.prog 25 #[] V fun e w' => e = .returned (.bool true) ∧ Fr [] V w' from goes21 V (hM.fr hV (by simp)) (hT.fr hV (by simp))))
  have HF := Lib.hid (fresh21 w hM hT)
  have HA := Lib.hid hA
  have hle := hA.len
  generalize hn : ls.length = n at *
  have HN := Lib.hid hn
  clear hn hA hM hT
  by_cases h60 : n ≤ 60
  · have b0 : decide ((60 : Int) < (n : Int)) = false := decide_eq_false (by omega)
    have b0' : decide (60 < n) = false := decide_eq_false (by omega)
    go_enter Tryz.func7, Tryz.ntmps7
    go_wp2_with fail
    with_reducible refine HF.out.mono ?_
    rintro e w1 ⟨q, u0, rfl, n1, hp0, hq, f1⟩
    obtain ⟨bs, hbs, hbl, hbb, hIm⟩ := p_image n1 hp0
    obtain rfl := hbs rfl
    have HQ := Lib.hid hq
    have F1 := Lib.hid f1
    have P0' := Lib.hid hp0
    have HIm := Lib.hid hIm
    have HCV := Lib.hid (show ∀ W g cw, RowB W g cw u0.bytes → (convert 24 9 (.slice (some ⟨g, 0, none⟩) u0.bytes.length cw)).run Tryz.prog W = .ok (.string (strOf u0.bytes)) W from fun W g cw hr => conv_str W _ cw _ (hr.byt hbb (by omega)))
    have HP := Lib.hid (fun V refs1 (hV : NP w q u0 [] (fun _ => 0) refs1 (fun _ => []) 7 V) => p_image hV hp0)
    have HIZ := Lib.hid (fun V par refs B (hV : NP w q u0 [] par refs B 7 V) => (show Calls Tryz.prog 13 #[.pointer (some ⟨q.m, 0, none⟩)] V fun e w' => ∃ g c, e = .returned (.slice (some ⟨g, 0, none⟩) u0.bytes.length c) ∧ RowB w' g c u0.bytes ∧ Fr [] V w' from by
      obtain ⟨bs, e0, _, _, hI⟩ := p_image hV hp0
      obtain rfl := e0 rfl
      refine hI.mono fun e w' ⟨v, he, ⟨g, c, hv, _, hr, hf⟩, _⟩ => ⟨g, c, by rw [he, hv], hr, hf⟩))
    have HLT := Lib.hid n1.lt
    clear n1 hq f1 HF hp0 hIm hbs HP
    generalize u0.bytes = zb at *
    generalize strOf zb = zs at *
    clear hbl hbb
    go_wp2_with fail
    with_reducible refine HIm.out.mono ?_
    rintro e w2 ⟨v, rfl, ⟨gw, cw, rfl, hgw, hrw, f2⟩, n2⟩
    have N2 := Lib.hid n2
    have RW := Lib.hid hrw
    have HGW := Lib.hid (show gw ∉ q.blocks from fun hm => by have := HLT.out _ hm; omega)
    have F2 := Lib.hid (F1.out.trans f2)
    clear n2 hrw f2 F1 HIm hgw
    generalize zb.length = zn at *
    have C2 := Lib.hid (Chn.nil (fun _ => 0) (fun _ => 0))
    go_wp2_with fail
    go_loopw [5, 6, 7] (fun v5 v6 v7 V => ∃ (j a fr : Nat) (l : List Nat) (par refs : Nat → Nat) (B : Nat → List Nat), v5 = .int .i64 a ∧ v6 = .int .i64 l.length ∧ v7 = .int .i64 j ∧ j ≤ n ∧ Hid (NP w q u0 l par refs B fr V) ∧ Hid (Chn l par refs a) ∧ Hid (Fr [] w V) ∧ Hid (RowB V gw cw zb)) (fun _ _ v7 _ => n - (intOf v7).toNat)
    case atStart => exact ⟨0, 0, 7, [], _, _, _, rfl, rfl, rfl, by omega, N2, C2, F2, RW⟩
    case round =>
      clear N2 C2 F2 RW
      obtain ⟨j, a, fr, l, par, refs, B, rfl, rfl, rfl, hj, N3, C3, F3, RW⟩ := hrel
      by_cases hlt : j < n
      · obtain ⟨gA, oA, rfl, hcl, hgA⟩ := (HA.out.fr F3.out).at_ j (by rw [HN.out]; exact hlt)
        have hb : ∀ k ∈ ls[j]?.getD [], k < 256 := HA.out.lt _ (by rw [List.getElem?_eq_getElem (by rw [HN.out]; exact hlt)]; exact List.getElem_mem _)
        have hsz := strOf_sz (ls[j]?.getD [])
        have b6 : decide ((j : Int) < n) = true := by simp; omega
        have b6' : decide (j < n) = true := by simp; omega
        have g2 : (0 : Int) ≤ j := by omega
        have g3 : (j : Int) < n := by omega
        have wj : IntKind.i64.wrap ((j : Int) + 1) = (j : Int) + 1 := IntWalk.i64_in _ (by omega)
        have hal := C3.out.at0
        have hMd := p_made N3.out hal hb (fun h0 => by
          have := C3.out.rf a (hal.resolve_left h0)
          have := N3.out.fewc a
          omega)
        have HMd := Lib.hid hMd
        generalize ls[j]?.getD [] = s0 at *
        generalize strOf s0 = st at *
        clear hMd hb hal
        by_cases h100 : st.size ≤ 100
        · have b7 : decide ((100 : Int) < (st.size : Int)) = false := decide_eq_false (by omega)
          have b7' : decide (100 < st.size) = false := decide_eq_false (by omega)
          clear hsz
          go_wp2_with fail
          with_reducible refine HMd.out.mono ?_
          rintro e w4 ⟨x, rfl, hx20, f4, hm⟩
          have F4 := Lib.hid (F3.out.step f4 (fun k hk => .inr (HQ.out k hk)))
          have RW4 := Lib.hid (RW.out.fr f4 HGW.out)
          have hup := fun y hy => N3.out.up (x := y) hy
          have hfew := N3.out.few
          clear HMd f4 RW
          rcases hm with ⟨rfl, fr1, hn4, -⟩ | ⟨hx0, hxl, -, -, fr1, hn4⟩
          · have N4 := Lib.hid hn4
            clear hn4 hup
            go_wp2_with fail
            go_roundw
            case rel => exact ⟨j + 1, a, fr1, l, _, _, _, rfl, rfl, by go_num, by omega, N4, C3, F4, RW4⟩
            case measure => simp [intOf]; omega
          · have N4 := Lib.hid hn4
            have C4 := Lib.hid (C3.out.snoc hxl hx0 hup)
            have b8 : decide ((0 : Int) < (x : Int)) = true := decide_eq_true (by omega)
            have b8' : decide (0 < x) = true := decide_eq_true (by omega)
            have wl : IntKind.i64.wrap ((l.length : Int) + 1) = ((l ++ [x]).length : Int) := by rw [IntWalk.i64_in _ (by omega), List.length_append]; rfl
            clear hn4 hup hx0 hxl C3
            go_wp2_with fail
            go_roundw
            case rel => exact ⟨j + 1, x, fr1, l ++ [x], _, _, _, rfl, by rw [List.length_append]; rfl, by go_num, by omega, N4, C4, F4, RW4⟩
            case measure => simp [intOf]; omega
        · have b7 : decide ((100 : Int) < (st.size : Int)) = true := decide_eq_true (by omega)
          have b7' : decide (100 < st.size) = true := decide_eq_true (by omega)
          clear hsz HMd
          go_wp2_with fail
          with_reducible refine (HGo.out _ F3.out).mono ?_
          rintro e w4 ⟨rfl, f4⟩
          have F4 := Lib.hid (F3.out.trans f4)
          clear f4
          go_wp2_with fail
          go_ret
          exact ⟨rfl, F4.out⟩
      · obtain rfl : j = n := by omega
        have b6 : decide ((j : Int) < j) = false := by simp
        have b6' : decide (j < j) = false := by simp
        have hfew := N3.out.few
        by_cases hl : l = []
        · subst hl
          have HC := Lib.hid (show Calls Tryz.prog 33 #[.pointer (some ⟨q.m, 0, none⟩)] wr fun e w' => e = .returned (.int .i64 0) ∧ NP w q u0 [] par refs B fr w' ∧ Fr q.blocks wr w' from p_count N3.out)
          clear hfew
          go_wp2_with fail
          with_reducible refine HC.out.mono ?_
          rintro e w5 ⟨rfl, -, f5⟩
          have F5 := Lib.hid (F3.out.step f5 (fun k hk => .inr (HQ.out k hk)))
          clear f5 HC F3
          go_wp2_with fail
          with_reducible refine (HGo.out _ F5.out).mono ?_
          rintro e w6 ⟨rfl, f6⟩
          have F6 := Lib.hid (F5.out.trans f6)
          clear f6
          go_wp2_with fail
          go_ret
          exact ⟨rfl, F6.out⟩
        · have hm := C3.out.m hl
          have h1 : 1 ≤ l.length := List.length_pos_of_mem hm
          have hra := C3.out.rf a hm
          have hfc := N3.out.fewc a
          have HHo := Lib.hid (p_hold N3.out hm (by omega))
          have HLe := Lib.hid (fun V (hV : NP w q u0 l par (up refs a (refs a + 1)) B fr V) => p_gone hV hm ⟨refs, C3.out, rfl⟩)
          have b9 : ((l.length : Int) == 0) = false := by simp; exact hl
          have b9' : (l.length == 0) = false := by simp; exact hl
          have HCt := Lib.hid (fun V refs1 (hV : NP w q u0 [] par refs1 B 7 V) => (show Calls Tryz.prog 33 #[.pointer (some ⟨q.m, 0, none⟩)] V fun e w' => e = .returned (.int .i64 0) ∧ NP w q u0 [] par refs1 B 7 w' ∧ Fr q.blocks V w' from p_count hV))
          have HIM := Lib.hid (fun V refs1 (hV : NP w q u0 [] par refs1 B 7 V) => HIZ.out V par refs1 B hV)
          have HFL := Lib.hid (fun V refs1 (hV : NP w q u0 [] par refs1 B 7 V) => p_flt hV)
          generalize l.length = ln at *
          clear hfew hl h1 hra hfc hm HIZ C3
          go_wp2_with fail
          with_reducible refine HHo.out.mono ?_
          rintro e w5 ⟨rfl, n5, f5⟩
          have N5 := Lib.hid n5
          have F5 := Lib.hid (F3.out.step f5 (fun k hk => .inr (HQ.out k hk)))
          have RW5 := Lib.hid (RW.out.fr f5 HGW.out)
          clear n5 f5 HHo F3 RW N3
          go_wp2_with fail
          with_reducible refine (HLe.out _ N5.out).mono ?_
          rintro e w6 ⟨rfl, f6, refs1, n6⟩
          have N6 := Lib.hid n6
          have F6 := Lib.hid (F5.out.step f6 (fun k hk => .inr (HQ.out k hk)))
          have RW6 := Lib.hid (RW5.out.fr f6 HGW.out)
          clear n6 f6 HLe F5 RW5 N5
          go_wp2_with fail
          have hY := HCV.out _ _ _ RW6.out.drew
          refine wp_region_held_drew (S := fun W => (convert 24 9 (.slice (some ⟨gw, 0, none⟩) zn cw)).run Tryz.prog W = .ok (.string zs) W) (by kernel_rfl) (hY) (fun yH => ?_)
          refine tkY 0 yH (h := ?_)
          refine tkY 1 yH (h := ?_)
          refine tkY 2 yH (h := ?_)
          refine tkY 3 yH (h := ?_)
          refine tkY 4 yH (h := ?_)
          refine tkY 5 yH (h := ?_)
          refine tkY 6 yH (h := ?_)
          refine tkY 7 yH (h := ?_)
          refine tkY 8 yH (h := ?_)
          refine wpAnyH_ready (rs := [9]) (by kernel_rfl) (by simp) ?_
          refine AllReadyH.cons (o := ?ooa9) ?hia9 (fun K hK => ?hca9) AllReadyH.nil
          case hia9 => (simp only [List.getElem?_toArray, List.getElem?_cons_zero, List.getElem?_cons_succ]; rfl)
          go_simp
          with_reducible refine (HCt.out _ _ (N6.out.fr0 (Fr.refl [] _).drew)).mono ?_
          rintro e w7 ⟨rfl, n7, f7⟩
          have N7 := Lib.hid n7
          have F7 := Lib.hid (F6.out.drew.step f7 (fun k hk => .inr (HQ.out k hk)))
          have RW7 := Lib.hid (RW6.out.drew.fr f7 HGW.out)
          have hY := HCV.out _ _ _ RW7.out
          clear n7 f7
          go_wp2_with fail
          refine hK.out _ _ (hY) (fun yH => ?_)
          clear hK K
          try simp only [Act.put, List.setIfInBounds_toArray, List.set_cons_zero, List.set_cons_succ]
          refine tkY 10 yH (h := ?_)
          refine tkY 11 yH (h := ?_)
          refine tkY 12 yH (h := ?_)
          refine tkY 13 yH (h := ?_)
          refine tkY 16 yH (h := ?_)
          refine tkY 17 yH (h := ?_)
          refine wpAnyH_ready (rs := [14]) (by kernel_rfl) (by simp) ?_
          refine AllReadyH.cons (o := ?ooa16) ?hia16 (fun K hK => ?hca16) AllReadyH.nil
          case hia16 => (simp only [List.getElem?_toArray, List.getElem?_cons_zero, List.getElem?_cons_succ]; rfl)
          go_simp
          with_reducible refine (HIM.out _ _ N7.out).mono ?_
          rintro e w8 ⟨g8, c8, rfl, hr8, f8⟩
          have N8 := Lib.hid (N7.out.fr0 f8)
          have F8 := Lib.hid (F7.out.trans f8)
          have RW8 := Lib.hid (RW7.out.fr f8 (by simp))
          have hs8 := HCV.out _ _ _ hr8
          have hY := HCV.out _ _ _ RW8.out
          clear hr8 f8
          go_wp2_with fail
          refine hK.out _ _ (hY) (fun yH => ?_)
          clear hK K
          try simp only [Act.put, List.setIfInBounds_toArray, List.set_cons_zero, List.set_cons_succ]
          refine wpAnyH_ready (rs := [15]) (by kernel_rfl) (by simp) ?_
          refine AllReadyH.cons (o := ?ooa17) ?hia17 (fun K hK => ?hca17) AllReadyH.nil
          case hia17 => (simp only [List.getElem?_toArray, List.getElem?_cons_zero, List.getElem?_cons_succ]; rfl)
          go_simp
          refine hK.out _ _ (hY) (fun yH => ?_)
          clear hK K
          try simp only [Act.put, List.setIfInBounds_toArray, List.set_cons_zero, List.set_cons_succ]
          refine tkY 18 yH (h := ?_)
          refine tkY 19 yH (h := ?_)
          refine tkY 20 yH (h := ?_)
          refine tkY 21 yH (h := ?_)
          refine wpAnyH_ready (rs := [22]) (by kernel_rfl) (by simp) ?_
          refine AllReadyH.cons (o := ?ooa22) ?hia22 (fun K hK => ?hca22) AllReadyH.nil
          case hia22 => (simp only [List.getElem?_toArray, List.getElem?_cons_zero, List.getElem?_cons_succ]; rfl)
          go_simp
          with_reducible refine (HFL.out _ _ N8.out).mono ?_
          rintro e w9 ⟨rfl, n9, f9⟩
          have F9 := Lib.hid (F8.out.step f9 (fun k hk => .inr (HQ.out k hk)))
          have RW9 := Lib.hid (RW8.out.fr f9 HGW.out)
          have hY := HCV.out _ _ _ RW9.out
          clear n9 f9
          go_wp2_with fail
          refine hK.out _ _ (hY) (fun yH => ?_)
          clear hK K
          try simp only [Act.put, List.setIfInBounds_toArray, List.set_cons_zero, List.set_cons_succ]
          refine tkY 23 yH (h := ?_)
          refine tkY 24 yH (h := ?_)
          refine tkY 25 yH (h := ?_)
          refine wpAnyH_ready (rs := [26]) (by kernel_rfl) (by simp) ?_
          refine AllReadyH.cons (o := ?ooa26) ?hia26 (fun K hK => ?hca26) AllReadyH.nil
          case hia26 => (simp only [List.getElem?_toArray, List.getElem?_cons_zero, List.getElem?_cons_succ]; rfl)
          go_simp
          with_reducible refine (HGo.out _ F9.out).mono ?_
          rintro e w10 ⟨rfl, f10⟩
          have F10 := Lib.hid (F9.out.trans f10)
          have hY := HCV.out _ _ _ (RW9.out.fr f10 (by simp))
          clear f10
          go_wp2_with fail
          refine hK.out _ _ (hY) (fun yH => ?_)
          clear hK K
          try simp only [Act.put, List.setIfInBounds_toArray, List.set_cons_zero, List.set_cons_succ]
          refine tkY 27 yH (h := ?_)
          refine tkY 28 yH (h := ?_)
          refine wpAnyH_done (by kernel_rfl) ?_ _
          go_wp2_with fail
          go_ret
          exact ⟨rfl, F10.out⟩
  · have b0 : decide ((60 : Int) < (n : Int)) = true := decide_eq_true (by omega)
    have b0' : decide (60 < n) = true := decide_eq_true (by omega)
    go_enter Tryz.func7, Tryz.ntmps7
    go_wp2_with fail
    with_reducible refine (HGo.out _ (Fr.refl [] w)).mono ?_
    rintro e w1 ⟨rfl, f1⟩
    have F1 := Lib.hid f1
    clear f1
    go_wp2_with fail
    go_ret
    exact ⟨rfl, F1.out⟩
theorem walk_ngoneW (w : World) (h : TabM w ∧ Tabs w) (ad : Option Addr) (cap : Nat) (ls : List (List Nat)) (hA : StrA w ad ls) : Calls Tryz.prog 7 #[.slice ad ls.length cap] w fun e w' => e = .returned (.bool true) ∧ Fr [] w w' := walk_ngone w h.1 h.2 ad cap ls hA
end
end Go.Proofs.YtgoogihfggndpaaGreatDoor
