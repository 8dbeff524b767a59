/- law22.ChainShares: the walk. -/
import Derived.Test.YtellbfamofilaaaGreatDoorMJ
import Derived.Test.YtellbfamofilaaaGreatDoorKT
import Derived.Lib.MinMax
import Derived.Deep.CutBlock
namespace Go.Proofs.YtellbfamofilaaaGreatDoor
set_option linter.unusedVariables false
set_option linter.unusedSimpArgs false
open Go.RowKit

section
variable {w0 w W W' : World} {q : MH} {u0 : TM} {l : List Nat} {par refs own : Nat → Nat} {nm : Nat → List (List Nat)} {fr x p a c : Nat} {N : List (List Nat)} {k j at_ : Nat} {lj : List Nat} {parj : Nat → Nat} {nmj : Nat → List (List Nat)} {frj : Nat}
theorem GwI.thr (g : GwI w0 q u0 l par own nm N k j at_ lj parj nmj frj W) {T : List (List (List Nat))} (t : Thr l nm T) (hk : k + j = N.length) : Thr lj nmj (T ++ [N]) := by
  refine ⟨fun y hy => ?_, fun M hM => ?_⟩
  · by_cases hl : y ∈ l
    · obtain ⟨M, hM, s, e⟩ := t.i1 y hl
      exact ⟨M, List.mem_append_left _ hM, s, by rw [g.na y (.inr hl)]; exact e⟩
    · obtain ⟨s, e⟩ := g.sf y hy hl
      exact ⟨N, List.mem_append_right _ (List.mem_singleton.2 rfl), s, e⟩
  · rcases List.mem_append.1 hM with h | h
    · obtain ⟨y, hy, e⟩ := t.i2 M h
      exact ⟨y, hy.imp id (g.sub y), by rw [g.na y hy]; exact e⟩
    · rw [List.mem_singleton] at h
      subst h
      exact ⟨at_, g.pl, by rw [g.ew, hk, sfx_all]⟩
/-- The most labels that N shares with the first k parts. -/
def mxS (P : List StP) (N : List (List Nat)) (k : Nat) : Nat := (P.take k).foldl (fun m p => max m (shr (lowN p.l) N)) 0
theorem mxS_succ {P : List StP} {N : List (List Nat)} {k : Nat} {p : StP} (h : P[k]? = some p) : mxS P N (k + 1) = max (mxS P N k) (shr (lowN p.l) N) := by
  unfold mxS
  rw [List.take_add_one, h, Option.toList_some, List.foldl_append]
  rfl
theorem mxS_le (P : List StP) (N : List (List Nat)) : ∀ k, mxS P N k ≤ N.length
  | 0 => by simp [mxS]
  | k + 1 => by
    by_cases h : k < P.length
    · rw [mxS_succ (List.getElem?_eq_getElem h)]
      have := mxS_le P N k
      have := (shr_spec (lowN P[k].l) N).2.1
      omega
    · unfold mxS
      rw [List.take_of_length_le (by omega)]
      have := mxS_le P N k
      unfold mxS at this
      rw [List.take_of_length_le (by omega)] at this
      exact this
theorem foldmax (f : StP → Nat) : ∀ (P : List StP) (m : Nat), (∀ p ∈ P, f p ≤ P.foldl (fun m p => max m (f p)) m) ∧ m ≤ P.foldl (fun m p => max m (f p)) m ∧ (P.foldl (fun m p => max m (f p)) m = m ∨ ∃ p ∈ P, P.foldl (fun m p => max m (f p)) m = f p)
  | [], m => ⟨fun p hp => (nomatch hp), Nat.le_refl _, .inl rfl⟩
  | a :: P, m => by
    obtain ⟨h1, h2, h3⟩ := foldmax f P (max m (f a))
    rw [List.foldl_cons]
    refine ⟨fun p hp => ?_, by omega, ?_⟩
    · rcases List.mem_cons.1 hp with e | hp
      · rw [e]; omega
      · exact h1 p hp
    · rcases h3 with h3 | ⟨p, hp, e⟩
      · rw [h3]
        by_cases hm : f a ≤ m
        · left; omega
        · exact .inr ⟨a, List.mem_cons_self, by omega⟩
      · exact .inr ⟨p, List.mem_cons_of_mem _ hp, e⟩
theorem mxS_is (h : CP w0 q u0 l par own nm fr W) {P : List StP} (t : Thr l nm (P.map fun p => lowN p.l)) (g : Kn l nm N a k) : mxS P N P.length = k := by
  obtain ⟨h1, h2⟩ := thr_most h t g
  obtain ⟨f1, f2, f3⟩ := foldmax (fun p => shr (lowN p.l) N) P 0
  unfold mxS
  rw [List.take_length]
  have hle : P.foldl (fun m p => max m (shr (lowN p.l) N)) 0 ≤ k := by
    rcases f3 with f3 | ⟨p, hp, e⟩
    · rw [f3]; exact Nat.zero_le _
    · rw [e]; exact h1 _ (List.mem_map.2 ⟨p, hp, rfl⟩)
  rcases h2 with h2 | ⟨M, hM, e⟩
  · omega
  · obtain ⟨p, hp, rfl⟩ := List.mem_map.1 hM
    have := f1 p hp
    omega
/-- A row of parts of its own, as it is read. -/
theorem own_prts {W : World} {base : Nat} {v : Value} {P : List StP} (h : W.ownsRow base 43 1 v P.length (prtC P)) :
    ∃ ad cap, v = .slice ad P.length cap ∧ ∀ k p, P[k]? = some p → ∃ g, ad = some ⟨g, 0, none⟩ ∧ base ≤ g ∧ g < W.heap.size ∧ W.cell? ⟨g, k, none⟩ = some (.slice p.a p.l.length p.c) := by
  obtain ⟨h1, ⟨h2, h3⟩ | ⟨g, cap, cur, rfl, hg0, hg, r1, r2, r3, r4⟩⟩ := h
  · refine ⟨none, 0, by rw [h2, h3], fun k p hp => ?_⟩
    rw [List.length_eq_zero_iff.1 h3] at hp
    simp at hp
  · rw [Nat.mul_one] at r4
    refine ⟨some ⟨g, 0, none⟩, cap, rfl, fun k p hp => ⟨g, rfl, hg0, (Array.getElem?_eq_some_iff.1 hg).1, ?_⟩⟩
    have hk : k < P.length := (List.getElem?_eq_some_iff.1 hp).1
    have hc := Blk.cell (g := g) (t := 43) (cs := cur) hg k
    rw [hc, ← Array.getElem?_toList]
    have e : (cur.toList.take P.length)[k]? = (prtC P)[k]? := by rw [r4]
    rw [List.getElem?_take_of_lt hk] at e
    rw [e]
    simp [prtC, hp]
/-- The walk's state. -/
structure KSn (wa w : World) (q : MH) (u0 : TM) (wb : Nat) (v4 : Value) (P : List StP) (i : Nat) (W : World) : Prop where
  c : ∃ l par own nm fr, CP wa q u0 l par own nm fr W ∧ Thr l nm (P.map fun p => lowN p.l) ∧ ∀ y, own y ≤ i
  r : W.ownsRow wb 43 1 v4 P.length (prtC P)
  s : ∀ p ∈ P, StrA w p.a p.l ∧ ∀ s ∈ p.l, s.length ≤ 100000
end
section
set_option maxRecDepth 100000 in
set_option maxHeartbeats 16000000 in
theorem walk_cshares (w : World) (hM : TabM w) (hT : Tabs w) (ad : Option Addr) (cap : Nat) (l : List A22) (hA : ActA22 w ad cap l) : Calls Tryz.prog 5 #[.slice ad l.length cap] w fun e w' => e = .returned (.bool true) ∧ Fr [] w w' := by
  have HGo := Lib.hid (fun V (hV : Fr [] w V) => (show Calls Tryz.prog 26 #[] V fun e w' => e = .returned (.bool true) ∧ Fr [] V w' from grows22 V (hM.fr hV (by simp)) (hT.fr hV (by simp))))
  have HF := Lib.hid (fun V (hV : Fr [] w V) => fresh22 V (hM.fr hV (by simp)) (hT.fr hV (by simp)))
  have HW := Lib.hid (few22 w 0 ad cap l hA)
  have HA := Lib.hid hA
  have hle := hA.len
  obtain ⟨n, hn⟩ : ∃ n, l.length = n := ⟨_, rfl⟩
  have HN := Lib.hid hn
  rw [hn] at hle ⊢
  rw [hn] at HW
  clear hn hA hM hT
  go_enter Tryz.func5, Tryz.ntmps5
  go_wp2_with fail
  with_reducible refine HW.out.mono ?_
  rintro e wa ⟨bf, rfl, fa, hbf⟩
  have FA := Lib.hid fa
  clear fa HW
  cases bf with
  | false =>
    clear hbf
    go_wp2_with fail
    with_reducible refine (HGo.out _ FA.out).mono ?_
    rintro e w1 ⟨rfl, f1⟩
    have F1 := Lib.hid (FA.out.trans f1)
    clear f1
    go_wp2_with fail
    go_ret
    exact ⟨rfl, F1.out⟩
  | true =>
    have hn60 := (hbf rfl).1
    rw [HN.out] at hn60
    have HFew := Lib.hid (hbf rfl).2
    have hf := HF.out _ FA.out
    clear hbf HF
    go_wp2_with fail
    with_reducible refine hf.mono ?_
    rintro e w1 ⟨q, u0, rfl, n1, -, hq, f1⟩
    have HQ := Lib.hid (fun k hk => (show w.heap.size ≤ k from Nat.le_trans FA.out.size (hq k hk)))
    have F1 := Lib.hid (FA.out.trans f1)
    have OK := Lib.hid n1.bok
    have K1 := Lib.hid (show KSn wa w q u0 w1.heap.size (.slice none 0 0) [] 0 w1 from ⟨⟨[], _, _, _, _, CP.start n1, ⟨fun y hy => (nomatch hy), fun M hM => (nomatch hM)⟩, fun _ => Nat.le_refl _⟩, World.ownsRow_nil _ _ _ _, fun p hp => (nomatch hp)⟩)
    obtain ⟨wb, hwb⟩ : ∃ wb, w1.heap.size = wb := ⟨_, rfl⟩
    have HWB := Lib.hid (show w.heap.size ≤ wb from hwb ▸ F1.out.size)
    rw [hwb] at K1 OK
    have HB1 := Lib.hid (show wb ≤ w1.heap.size from Nat.le_of_eq hwb.symm)
    clear n1 hq f1 hf FA hwb
    go_wp2_with fail
    go_loopg [4, 5] (n + 1) (fun gk v4 v5 W => ∃ (i : Nat) (P : List StP) (a4 : Option Addr) (c4 m : Nat), v4 = .slice a4 m c4 ∧ v5 = .int .i64 i ∧ (i + gk = n + 1 ∧ i ≤ n) ∧ m ≤ i ∧ Hid (P.length = m) ∧ Hid (KSn wa w q u0 wb (.slice a4 m c4) P i W) ∧ Hid (Fr [] w W) ∧ Hid (wb ≤ W.heap.size))
    case atStart => exact ⟨0, [], none, 0, 0, rfl, rfl, by omega, by omega, Lib.hid rfl, K1, F1, HB1⟩
    case round =>
      clear K1 F1 HB1
      obtain ⟨i, P, a4, c4, m, rfl, rfl, hi, hmi, HP, KH, F3, HB3⟩ := hrel
      obtain ⟨G, hG⟩ : ∃ G, G = gk := ⟨_, rfl⟩
      subst hG
      by_cases hlt : i < n
      · have b6 : decide ((i : Int) < n) = true := by simp; omega
        have b6' : decide (i < n) = true := by simp; omega
        have hL : i < l.length := by rw [HN.out]; exact hlt
        obtain ⟨B, off, rfl, hBl, hr⟩ := HA.out.row (by omega)
        have hrj := hr i hL
        have hok := HA.out.each _ (List.getElem_mem hL)
        have hfe := HFew.out _ (List.getElem_mem hL)
        generalize l[i]'hL = d at *
        obtain ⟨dk, dn, da, dc, dl⟩ := d
        have hc2 := hrj 2 (by decide)
        have hs := hok.s
        have hcd := hok.c
        simp only [A22.cells, List.getElem?_cons_succ, List.getElem?_cons_zero] at hc2 hs hcd hfe
        have HC2 := Lib.hid (fun W (hW : Fr [] w W) => (hW.cell (p := ⟨B, off + i * 3 + 2, none⟩) hBl (by simp)).trans hc2)
        have HSA := Lib.hid (fun W (hW : Fr [] w W) => hs.fr hW)
        have HSq := Lib.hid (fun (h0 : 0 < dl.length) g o (e : da = some ⟨g, o, none⟩) => (show g ∉ q.blocks from fun hm => by
          obtain ⟨g', o', e', _, hg⟩ := hs.at_ 0 h0
          rw [e'] at e
          injection e with e
          injection e with e1
          subst e1
          have := HQ.out _ hm
          omega))
        obtain ⟨l0, par, own, nm, fr, hCP, hThr, hown⟩ := KH.out.c
        obtain ⟨nn, hnn⟩ : ∃ nn, dl.length = nn := ⟨_, rfl⟩
        have hl130 := hfe.1
        have HNN := Lib.hid hnn
        have H100 := Lib.hid (show ∀ s ∈ dl, s.length ≤ 100000 from fun s hs => by
          obtain ⟨k, hk, e⟩ := List.mem_iff_getElem.1 hs
          have h1 := fold_take dl k s 1 (by rw [List.getElem?_eq_getElem hk, e])
          have h2 : (dl.take (k + 1)).foldl (fun n s => n + (s.length + 1)) 1 ≤ wireN dl := by
            unfold wireN
            conv => rhs; rw [← List.take_append_drop (k + 1) dl, List.foldl_append]
            exact fold_mono _ _
          have := hfe.2
          omega)
        have HGr := Lib.hid (fun W (hW : CP wa q u0 l0 par own nm fr W) (hF : Fr [] w W) => grown22 hW da dc dl (HSA.out W hF) HSq.out hfe.2 hfe.1 (fun y => by have := hown y; omega))
        have HCo := Lib.hid (c_count hCP)
        have HOw := Lib.hid (fun at_ => (show ∀ y, ownP own at_ y ≤ i + 1 from fun y => by have := ownP_le own at_ y; have := hown y; omega))
        have HTh := Lib.hid hThr
        have HCP := Lib.hid hCP
        have HRw := Lib.hid KH.out.r
        have HSp := Lib.hid KH.out.s
        rw [hnn] at HC2 hl130 HGr hcd
        have i0 : (0 : Int) ≤ i := by omega
        have i1 : (i : Int) < n := by omega
        have wi : IntKind.i64.wrap ((i : Int) + 1) = (i : Int) + 1 := IntWalk.i64_in _ (by omega)
        clear hr hrj hok hc2 hs hfe hnn hL hCP hown KH hThr
        obtain ⟨V, hV⟩ : ∃ V, V = wr := ⟨_, rfl⟩
        subst hV
        go_wp2_with fail
        go_loopg [6, 7] (m + 1) (fun gk v6 v7 W => ∃ k : Nat, v6 = .int .i64 (mxS P (lowN dl) k) ∧ v7 = .int .i64 k ∧ (k + gk = m + 1 ∧ k ≤ m) ∧ Hid (Fr [] V W))
        case atStart => exact ⟨0, rfl, rfl, by omega, Lib.hid (Fr.refl [] V)⟩
        case round =>
          obtain ⟨k, rfl, rfl, hk, F4⟩ := hrel
          have F4w := Lib.hid (F3.out.trans F4.out)
          by_cases hkm : k < m
          · have b8 : decide ((k : Int) < m) = true := by simp; omega
            have b8' : decide (k < m) = true := by simp; omega
            obtain ⟨p, hp⟩ : ∃ p, P[k]? = some p := ⟨_, List.getElem?_eq_getElem (by rw [HP.out]; exact hkm)⟩
            obtain ⟨ad', cap', ev, hcl⟩ := own_prts HRw.out
            rw [HP.out] at ev
            injection ev with e1 _ e3
            subst e1 e3
            obtain ⟨g, rfl, hgb, hgs, hc4⟩ := hcl k p hp
            have F4d := Lib.hid F4.out.drew
            have F4wd := Lib.hid F4w.out.drew
            have hc4' := (F4d.out.cell (p := ⟨g, k, none⟩) hgs (by simp)).trans hc4
            have c2 := HC2.out _ F4wd.out
            have hps := HSp.out p (List.mem_of_getElem? hp)
            have HSh := Lib.hid (fun W (hW : Fr [] w W) => (show Calls Tryz.prog 28 #[.slice p.a p.l.length p.c, .slice da nn dc] W fun e w' => e = .returned (.int .i64 (shr (lowN p.l) (lowN dl))) ∧ Fr [] W w' from by
              have := shared4 W p.a da p.c dc p.l dl (hps.1.fr hW) (HSA.out W hW) hps.2 H100.out
              rw [HNN.out] at this
              exact this))
            have HMx := Lib.hid (mxS_succ (N := lowN dl) hp)
            have hml := mxS_le P (lowN dl) k
            have hsl := (shr_spec (lowN p.l) (lowN dl)).2.1
            rw [lowN_len, HNN.out] at hml hsl
            have k0 : (0 : Int) ≤ k := by omega
            have k1 : (k : Int) < m := by omega
            have wk : IntKind.i64.wrap ((k : Int) + 1) = (k : Int) + 1 := IntWalk.i64_in _ (by omega)
            have HMk : mxS P (lowN dl) (k + 1) = max (mxS P (lowN dl) k) (shr (lowN p.l) (lowN dl)) := HMx.out
            generalize mxS P (lowN dl) k = mk at *
            generalize hmk1 : mxS P (lowN dl) (k + 1) = mk1 at *
            have HK1 := Lib.hid hmk1
            clear hmk1
            generalize shr (lowN p.l) (lowN dl) = sk at *
            have hmx : max (mk : Int) (sk : Int) = ((mk1 : Nat) : Int) := by omega
            generalize p.l.length = pn at *
            have hY := And.intro hc4' c2
            clear hc4 hps hcl HMk hml hsl HMx hp
            go_wp2_with fail
            refine wp_region_held_drew (S := fun W => W.cell? ⟨g, k, none⟩ = some (.slice p.a pn p.c) ∧ W.cell? ⟨B, off + i * 3 + 2, none⟩ = some (.slice da nn dc)) (by kernel_rfl) (hY) (fun yH => ?_)
            refine tkY 0 yH (h := ?_)
            refine tkY 1 yH (h := ?_)
            refine tkY 2 yH (h := ?_)
            refine tkY 3 yH (h := ?_)
            refine tkY 4 yH (h := ?_)
            refine tkY 5 yH (h := ?_)
            refine tkY 6 yH (h := ?_)
            refine tkY 7 yH (h := ?_)
            refine tkY 8 yH (h := ?_)
            refine tkY 9 yH (h := ?_)
            refine wpAnyH_ready (rs := [10]) (by kernel_rfl) (by simp) ?_
            refine AllReadyH.cons (o := ?ooma10) ?hima10 (fun K hK => ?hcma10) AllReadyH.nil
            case hima10 => (simp only [List.getElem?_toArray, List.getElem?_cons_zero, List.getElem?_cons_succ]; rfl)
            go_simp
            with_reducible refine (HSh.out _ F4wd.out).mono ?_
            rintro e w5 ⟨rfl, f5⟩
            have F5 := Lib.hid (F4d.out.trans f5)
            have hY := And.intro ((f5.cell (p := ⟨g, k, none⟩) (Nat.lt_of_lt_of_le hgs F4d.out.size) (by simp)).trans hY.1) (HC2.out _ (F4wd.out.trans f5))
            clear f5
            go_wp2_with fail
            refine hK.out _ _ (hY) (fun yH => ?_)
            clear hK K
            try simp only [Act.put, List.setIfInBounds_toArray, List.set_cons_zero, List.set_cons_succ]
            refine wpAnyH_ready (rs := [11]) (by kernel_rfl) (by simp) ?_
            refine AllReadyH.cons (o := ?ooma11) ?hima11 (fun K hK => ?hcma11) AllReadyH.nil
            case hima11 => (simp only [List.getElem?_toArray, List.getElem?_cons_zero, List.getElem?_cons_succ]; rfl)
            go_simp
            refine hK.out _ _ (hY) (fun yH => ?_)
            clear hK K
            try simp only [Act.put, List.setIfInBounds_toArray, List.set_cons_zero, List.set_cons_succ]
            refine tkY 12 yH (h := ?_)
            refine wpAnyH_done (by kernel_rfl) ?_ _
            try simp only [Act.put, List.getElem_toArray, List.getElem_cons_zero, List.getElem_cons_succ, List.setIfInBounds_toArray, List.set_cons_zero, List.set_cons_succ]
            go_wp2_with fail
            go_roundg (gk - 1)
            case measure => omega
            case rel => exact ⟨k + 1, by rw [HK1.out], by go_num, by omega, F5⟩
          · obtain rfl : k = m := by omega
            have b8 : decide ((k : Int) < k) = false := by simp
            have b8' : decide (k < k) = false := by simp
            have C4 := Lib.hid (c_count (HCP.out.fr0 F4.out))
            have R4 := Lib.hid (own_fr4 HRw.out F4.out)
            have hml := mxS_le P (lowN dl) k
            rw [lowN_len, HNN.out] at hml
            have HMX := Lib.hid (fun a2 k2 (hk2 : Kn l0 nm (lowN dl) a2 k2) => (show mxS P (lowN dl) k = k2 from by
              have := mxS_is HCP.out HTh.out hk2
              rwa [HP.out] at this))
            have hLL := HCP.out.few
            generalize hll : l0.length = ll at *
            have HLL := Lib.hid hll
            generalize mxS P (lowN dl) k = M0 at *
            have hB4 : wb ≤ wr.heap.size := Nat.le_trans HB3.out F4.out.size
            clear hll F4 HCo HRw HB3
            go_wp2_with fail
            with_reducible refine C4.out.mono ?_
            rintro e w5 ⟨rfl, h5, f5⟩
            have F5 := Lib.hid (F4w.out.step f5 (fun k hk => .inr (HQ.out k hk)))
            have R5 := Lib.hid (own_fr4 R4.out f5 (fun k hk e => by
              have h1 := (R4.out.lt k e).1
              have h2 := OK.out.q k hk
              omega))
            have hB5 : wb ≤ w5.heap.size := Nat.le_trans hB4 f5.size
            have HGr5 := Lib.hid (HGr.out _ h5 F5.out)
            have c2 := HC2.out _ F5.out
            clear h5 f5 F4w R4 hB4 C4 HGr
            go_wp2_with fail
            with_reducible refine HGr5.out.mono ?_
            rintro e w6 ⟨f6, ⟨rfl, -, fr1, h6⟩ | ⟨hck, at_, n2, k2, a2, rfl, hkn, hk2, lj, parj, nmj, frj, h6⟩⟩
            · have F6 := Lib.hid (F5.out.step f6 (fun k hk => .inr (HQ.out k hk)))
              have R6 := Lib.hid (own_fr4 R5.out f6 (fun k hk e => by
                have h1 := (R5.out.lt k e).1
                have h2 := OK.out.q k hk
                omega))
              have hB6 : wb ≤ w6.heap.size := Nat.le_trans hB5 f6.size
              have C6 := Lib.hid h6
              clear f6 h6 HGr5 F5 R5 hB5 c2
              go_wp2_with fail
              go_roundg (G - 1)
              case measure => omega
              case rel => exact ⟨i + 1, P, a4, c4, k, rfl, by go_num, by omega, by omega, HP, Lib.hid ⟨⟨l0, par, own, nm, fr1, C6.out, HTh.out, fun y => by have := HOw.out 0 y; have := ownP_ge own 0 y; omega⟩, R6.out, HSp.out⟩, F6, Lib.hid hB6⟩
            · have F6 := Lib.hid (F5.out.step f6 (fun k hk => .inr (HQ.out k hk)))
              have R6 := Lib.hid (own_fr4 R5.out f6 (fun k hk e => by
                have h1 := (R5.out.lt k e).1
                have h2 := OK.out.q k hk
                omega))
              have hB6 : wb ≤ w6.heap.size := Nat.le_trans hB5 f6.size
              have hM0 := HMX.out a2 k2 hk2
              rw [HNN.out] at hkn
              have hcc := c_count h6.cp
              rw [h6.len, HLL.out] at hcc
              have HCc := Lib.hid hcc
              have HT6 := Lib.hid (h6.thr HTh.out (by rw [lowN_len, HNN.out]; exact hkn))
              have u1 : IntKind.i64.wrap ((nn : Int) - M0) = (n2 : Int) := by rw [IntWalk.i64_in _ (by omega)]; omega
              have u2 : IntKind.i64.wrap ((ll : Int) + n2) = ((ll + n2 : Nat) : Int) := by rw [IntWalk.i64_in _ (by omega)]; push_cast; rfl
              have bn : ((n2 : Int) != n2) = false := by simp
              have bl : (((ll + n2 : Nat) : Int) != ((ll + n2 : Nat) : Int)) = false := by simp
              have bz : decide ((n2 : Int) < 0) = false := by simp
              have HOa := Lib.hid (HOw.out at_)
              have c2 := HC2.out _ F6.out
              generalize ll + n2 = lc at *
              clear f6 h6 hck hk2 hcc HGr5 F5 R5 hB5 hkn hM0 HMX
              go_wp2_with fail
              with_reducible refine HCc.out.mono ?_
              rintro e w7 ⟨rfl, h7, f7⟩
              have F7 := Lib.hid (F6.out.step f7 (fun k hk => .inr (HQ.out k hk)))
              have R7 := Lib.hid (own_fr4 R6.out f7 (fun k hk e => by
                have h1 := (R6.out.lt k e).1
                have h2 := OK.out.q k hk
                omega))
              have hB7 : wb ≤ w7.heap.size := Nat.le_trans hB6 f7.size
              have C7 := Lib.hid h7
              have c2 := HC2.out _ F7.out
              have hpl : P.length ≤ 1048576 := by rw [HP.out]; omega
              clear h7 f7 F6 R6 hB6 HCc
              go_wp2_with (first | (at_builtin; refine wpList_appV rfl _ _ rfl rfl wb _ P rfl da dc dl nn HNN.out.symm w7 rfl R7.out rfl hpl hB7 ?_; intro g1 q1 W1 hO1 hF1 hob1) | fail)
              have F8 := Lib.hid (F7.out.step hF1 (fun k hk => .inr (Nat.le_trans HWB.out (R7.out.lt k (ownS_mem hk)).1)))
              have C8 := Lib.hid (C7.out.frL OK.out hF1 (fun k hk => (R7.out.lt k (ownS_mem hk)).1))
              have hB8 : wb ≤ W1.heap.size := Nat.le_trans hB7 hF1.size
              have R8 := Lib.hid hO1
              clear hO1 hF1 hob1 R7 C7 F7 hB7
              go_roundg (G - 1)
              case measure => omega
              case rel => exact ⟨i + 1, P ++ [StP.mk da dc dl], some ⟨g1, 0, none⟩, q1, P.length + 1, by first | rfl | (rw [HP.out]), by go_num, by omega, by rw [HP.out]; omega, Lib.hid (by simp), Lib.hid ⟨⟨lj, parj, _, nmj, frj, C8.out, by rw [List.map_append]; exact HT6.out, HOa.out⟩, R8.out, fun p hp => by
                rcases List.mem_append.1 hp with h | h
                · exact HSp.out p h
                · rw [List.mem_singleton] at h; subst h; exact ⟨HSA.out w (Fr.refl [] w), H100.out⟩⟩, F8, Lib.hid hB8⟩
      · obtain rfl : i = n := by omega
        have b6 : decide ((i : Int) < i) = false := by simp
        have b6' : decide (i < i) = false := by simp
        clear KH
        go_wp2_with fail
        with_reducible refine (HGo.out _ F3.out).mono ?_
        rintro e w7 ⟨rfl, f7⟩
        have F7 := Lib.hid (F3.out.trans f7)
        clear f7
        go_wp2_with fail
        go_ret
        exact ⟨rfl, F7.out⟩
theorem walk_csharesW (w : World) (h : TabM w ∧ Tabs w) (ad : Option Addr) (cap : Nat) (l : List A22) (hA : ActA22 w ad cap l) : Calls Tryz.prog 5 #[.slice ad l.length cap] w fun e w' => e = .returned (.bool true) ∧ Fr [] w w' := walk_cshares w h.1 h.2 ad cap l hA
end
end Go.Proofs.YtellbfamofilaaaGreatDoor
