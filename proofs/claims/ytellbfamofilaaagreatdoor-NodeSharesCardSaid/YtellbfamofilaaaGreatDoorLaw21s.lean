/- law21.NodeShares: the walk. -/
import Derived.Test.YtellbfamofilaaaGreatDoorMF
import Derived.Test.YtellbfamofilaaaGreatDoorOpenT
import Derived.Test.YtellbfamofilaaaGreatDoorX02
import Derived.Test.YtellbfamofilaaaGreatDoorKT
namespace Go.Proofs.YtellbfamofilaaaGreatDoor
set_option linter.unusedVariables false
set_option linter.unusedSimpArgs false
open Go.RowKit

/-- No node is held but by those below. -/
def RBl (l : List Nat) (par refs : Nat → Nat) : Prop := ∀ y ∈ l, refs y = bel par l y
theorem rb_snoc {l : List Nat} {par refs : Nat → Nat} {a x : Nat} (h : RBl l par refs) (ha : a = 0 ∨ a ∈ l) (hx : x ∉ l) (hx0 : x ≠ 0) (hup : ∀ y ∈ l, par y = 0 ∨ par y ∈ l) : RBl (l ++ [x]) (up par x a) (refN refs x a) := by
  have hp : ∀ z ∈ l, up par x a z = par z := fun z hz => up_ne _ _ (fun e => hx (e ▸ hz))
  have hxa : a ≠ x := fun e => by
    rcases ha with k | k
    · exact hx0 (e.symm.trans k)
    · exact hx (e ▸ k)
  intro y hy
  rw [bel_snoc, up_same, bel_congr hp]
  unfold refN
  by_cases e : y = x
  · subst e
    rw [if_pos rfl, if_neg hxa]
    have : bel par l y = 0 := by
      by_cases h0 : bel par l y = 0
      · exact h0
      · obtain ⟨z, hz, e⟩ := bel_pos.1 h0
        rcases hup z hz with k | k
        · exact absurd (e.symm.trans k) hx0
        · exact absurd (e ▸ k) hx
    omega
  · rw [if_neg e]
    have hy' : y ∈ l := by
      rcases List.mem_append.1 hy with k | k
      · exact k
      · exact absurd (List.mem_singleton.1 k) e
    rw [h y hy']
    by_cases ea : y = a
    · rw [if_pos ea, if_pos ea.symm]
    · rw [if_neg ea, if_neg (fun k => ea k.symm)]
theorem fnd_new {l : List Nat} {par : Nat → Nat} {B : Nat → List Nat} {a x : Nat} {s : List Nat} (hx : x ∉ l) (h : fndP l par B a s = none) : fndP (l ++ [x]) (up par x a) (up B x s) a s = some x := by
  unfold fndP at h ⊢
  rw [List.find?_append]
  have e : l.find? (fun z => up par x a z == a && up B x s z == s) = none := by
    rw [List.find?_eq_none] at h ⊢
    intro z hz
    have hne : z ≠ x := fun k => hx (k ▸ hz)
    rw [up_ne _ _ hne, up_ne _ _ hne]
    exact h z hz
  rw [e, Option.none_or, List.find?_cons, up_same, up_same, beq_self_eq_true, beq_self_eq_true]
  rfl
theorem fndP_some {l : List Nat} {par : Nat → Nat} {B : Nat → List Nat} {up z : Nat} {s : List Nat} (h : fndP l par B up s = some z) : z ∈ l ∧ B z = s := by
  have h1 := List.find?_some h
  have h2 := List.mem_of_find?_eq_some h
  simp at h1
  exact ⟨h2, h1.2⟩
section
variable {w0 W W' : World} {q : MH} {u0 : TM} {l : List Nat} {par refs own : Nat → Nat} {B : Nat → List Nat} {fr x p a : Nat} {b : List Nat}
/-- A state of the walk: the nodes, none held, the place. -/
def SH (w : World) (q : MH) (u0 : TM) (n a : Nat) (V : World) : Prop := ∃ l par refs B fr, NP w q u0 l par refs B fr V ∧ RBl l par refs ∧ (a = 0 ∨ a ∈ l) ∧ l.length = n
/-- Behind Find and made: the label's node is x. -/
def SHx (w : World) (q : MH) (u0 : TM) (n a x : Nat) (s : List Nat) (V : World) : Prop := ∃ l par refs B fr, NP w q u0 l par refs B fr V ∧ RBl l par refs ∧ (a = 0 ∨ a ∈ l) ∧ l.length = n ∧ fndP l par B a (s.map lowB) = some x
theorem SHx.next {w V : World} {n : Nat} {s : List Nat} (h : SHx w q u0 n a x s V) : SH w q u0 n x V ∧ x ≠ 0 := by
  obtain ⟨l, par, refs, B, fr, h1, h2, h3, h4, h5⟩ := h
  have hx := (fndP_some h5).1
  exact ⟨⟨l, par, refs, B, fr, h1, h2, .inr hx, h4⟩, (h1.rng hx).1⟩
theorem s_find {w V : World} {n : Nat} {s : List Nat} (h : SH w q u0 n a V) (hs : ∀ k ∈ s, k < 256) (hk : labOk s = true) :
    Calls Tryz.prog 21 #[.pointer (some ⟨q.m, 0, none⟩), .int .i64 a, .string (strOf s)] V fun e w' => Fr q.blocks V w' ∧ ((∃ x : Nat, e = .returned (.tuple #[.int .i64 x, .bool true]) ∧ SHx w q u0 n a x s w') ∨ (e = .returned (.tuple #[.int .i64 0, .bool false]) ∧ ∀ Y (hY : Y = w'), Calls Tryz.prog 15 #[.pointer (some ⟨q.m, 0, none⟩), .int .i64 a, .string (strOf s)] Y fun e w'' => ∃ x : Nat, e = .returned (.int .i64 x) ∧ x < 1048576 ∧ Fr q.blocks Y w'' ∧ ((x = 0 ∧ ∃ l par refs B, NP w q u0 l par refs B 0 w'') ∨ (x ≠ 0 ∧ SHx w q u0 (n + 1) a x s w'')))) := by
  obtain ⟨l, par, refs, B, fr, h1, h2, h3, h4⟩ := h
  refine (p_find h1 h3 hs).mono fun e w' ⟨he, g1, g2⟩ => ⟨g2, ?_⟩
  rw [if_pos hk] at he
  cases hf : fndP l par B a (s.map lowB) with
  | some x =>
    rw [hf] at he
    exact .inl ⟨x, he, l, par, refs, B, fr, g1, h2, h3, h4, hf⟩
  | none =>
    rw [hf] at he
    refine .inr ⟨he, fun Y hY => ?_⟩
    subst hY
    refine (p_made g1 h3 hs (fun h0 => by
      have e1 := h2 a (h3.resolve_left h0)
      have e2 := bel_le par l a
      have e3 := g1.few
      omega)).mono fun e w'' ⟨x, k1, k2, k3, k4⟩ => ⟨x, k1, k2, k3, ?_⟩
    rcases k4 with ⟨kx, fr1, kn, kf⟩ | ⟨kx, kxl, _, kfn, fr1, kn⟩
    · have := kf hk hf
      subst this
      exact .inl ⟨kx, l, par, refs, B, kn⟩
    · refine .inr ⟨kx, _, _, _, _, fr1, kn, rb_snoc h2 h3 kxl kx (fun y hy => g1.up hy), ?_, by rw [List.length_append, h4]; rfl, fnd_new kxl hf⟩
      rcases h3 with k | k
      · exact .inl k
      · exact .inr (List.mem_append_left _ k)
theorem s_again {w V : World} {n : Nat} {s : List Nat} (h : SHx w q u0 n a x s V) (hs : ∀ k ∈ s, k < 256) (hk : labOk s = true) :
    Calls Tryz.prog 21 #[.pointer (some ⟨q.m, 0, none⟩), .int .i64 a, .string (strOf (s.map lowB))] V fun e w' => e = .returned (.tuple #[.int .i64 x, .bool true]) ∧ SHx w q u0 n a x s w' ∧ Fr q.blocks V w' := by
  obtain ⟨l, par, refs, B, fr, h1, h2, h3, h4, h5⟩ := h
  refine (p_find h1 h3 (low_lt hs)).mono fun e w' ⟨he, g1, g2⟩ => ⟨?_, ⟨l, par, refs, B, fr, g1, h2, h3, h4, h5⟩, g2⟩
  rw [labOk_low, if_pos hk, low_low, h5] at he
  exact he
theorem s_label {w V : World} {n : Nat} {s : List Nat} (h : SHx w q u0 n a x s V) :
    Calls Tryz.prog 24 #[.pointer (some ⟨q.m, 0, none⟩), .int .i64 x] V fun e w' => e = .returned (.tuple #[.string (strOf (s.map lowB)), .int .i64 0]) ∧ SHx w q u0 n a x s w' ∧ Fr q.blocks V w' := by
  obtain ⟨l, par, refs, B, fr, h1, h2, h3, h4, h5⟩ := h
  have hx := fndP_some h5
  have := p_label h1 hx.1
  rw [hx.2] at this
  exact this.mono fun e w' ⟨he, g1, g2⟩ => ⟨he, ⟨l, par, refs, B, fr, g1, h2, h3, h4, h5⟩, g2⟩
theorem s_count {w V : World} {n : Nat} (h : SH w q u0 n a V) : Calls Tryz.prog 18 #[.pointer (some ⟨q.m, 0, none⟩)] V fun e w' => e = .returned (.int .i64 n) ∧ SH w q u0 n a w' ∧ Fr q.blocks V w' := by
  obtain ⟨l, par, refs, B, fr, h1, h2, h3, h4⟩ := h
  subst h4
  exact (p_count h1).mono fun e w' ⟨he, g1, g2⟩ => ⟨he, ⟨l, par, refs, B, fr, g1, h2, h3, rfl⟩, g2⟩
theorem s_flt {w V : World} {n : Nat} (h : SH w q u0 n a V) : Calls Tryz.prog 19 #[.pointer (some ⟨q.m, 0, none⟩)] V fun e w' => e = .returned (.int .i64 0) ∧ SH w q u0 n a w' ∧ Fr q.blocks V w' := by
  obtain ⟨l, par, refs, B, fr, h1, h2, h3, h4⟩ := h
  exact (p_flt h1).mono fun e w' ⟨he, g1, g2⟩ => ⟨he, ⟨l, par, refs, B, fr, g1, h2, h3, h4⟩, g2⟩
theorem SH.few {w V : World} {n : Nat} (h : SH w q u0 n a V) : n ≤ 224 := by
  obtain ⟨l, par, refs, B, fr, h1, h2, h3, h4⟩ := h
  have := h1.few
  omega
theorem SH.zero {w V : World} {n : Nat} (h : SH w q u0 n a V) : SH w q u0 n 0 V := by
  obtain ⟨l, par, refs, B, fr, h1, h2, h3, h4⟩ := h
  exact ⟨l, par, refs, B, fr, h1, h2, .inl rfl, h4⟩
theorem SH.fr0 {w V V' : World} {n : Nat} (h : SH w q u0 n a V) (hf : Fr [] V V') : SH w q u0 n a V' := by
  obtain ⟨l, par, refs, B, fr, h1, h2, h3, h4⟩ := h
  exact ⟨l, par, refs, B, fr, h1.fr0 hf, h2, h3, h4⟩
theorem SHx.fr0 {w V V' : World} {n : Nat} {s : List Nat} (h : SHx w q u0 n a x s V) (hf : Fr [] V V') : SHx w q u0 n a x s V' := by
  obtain ⟨l, par, refs, B, fr, h1, h2, h3, h4⟩ := h
  exact ⟨l, par, refs, B, fr, h1.fr0 hf, h2, h3, h4⟩
set_option maxRecDepth 100000 in
set_option maxHeartbeats 8000000 in
theorem walk_nshares (w : World) (hM : TabM w) (hT : Tabs w) (ad : Option Addr) (cap : Nat) (ls : List StP) (hA : StrB w ad ls) : Calls Tryz.prog 4 #[.slice ad ls.length cap] w fun e w' => e = .returned (.bool true) ∧ Fr [] w w' := by
  have HGo := Lib.hid (fun V (hV : Fr [] w V) => (show Calls Tryz.prog 10 #[] V fun e w' => e = .returned (.bool true) ∧ Fr [] V w' from goes21 V (hM.fr hV (by simp)) (hT.fr hV (by simp))))
  have HF := Lib.hid (fresh21 w hM hT)
  have HA := Lib.hid hA
  have hle := hA.len
  generalize hn : ls.length = n at *
  have HN := Lib.hid hn
  clear hn hA hM hT
  by_cases h20 : n ≤ 20
  · have b0 : decide ((20 : Int) < (n : Int)) = false := decide_eq_false (by omega)
    have b0' : decide (20 < n) = false := decide_eq_false (by omega)
    go_enter Tryz.func4, Tryz.ntmps4
    go_wp2_with fail
    with_reducible refine HF.out.mono ?_
    rintro e w1 ⟨q, u0, rfl, n1, -, hq, f1⟩
    have HQ := Lib.hid hq
    have F1 := Lib.hid f1
    have N1 := Lib.hid (show SH w q u0 0 0 w1 from ⟨[], _, _, _, _, n1, fun y hy => (nomatch hy), .inl rfl, rfl⟩)
    clear n1 hq f1 HF
    go_wp2_with fail
    go_loopw [4, 5] (fun v4 v5 V => ∃ (i m : Nat), v4 = .int .i64 m ∧ v5 = .int .i64 i ∧ i ≤ n ∧ Hid (SH w q u0 m 0 V) ∧ Hid (Fr [] w V)) (fun _ v5 _ => n - (intOf v5).toNat)
    case atStart => exact ⟨0, 0, rfl, rfl, by omega, N1, F1⟩
    case round =>
      clear N1 F1
      obtain ⟨i, m, rfl, rfl, hi, N3, F3⟩ := hrel
      by_cases hlt : i < n
      · obtain ⟨gA, oA, rfl, hcA, hgA⟩ := HA.out.at_ i (by rw [HN.out]; exact hlt)
        have hsp := HA.out.each _ (List.getElem_mem (by rw [HN.out]; exact hlt : i < ls.length))
        generalize ls[i]'(by rw [HN.out]; exact hlt) = sp at *
        obtain ⟨aB, cB, lB⟩ := sp
        simp only at hcA hsp
        have HCA := Lib.hid (fun V (hV : Fr [] w V) => (hV.cell (p := ⟨gA, oA + i, none⟩) hgA (by simp)).trans hcA)
        have HSP := Lib.hid hsp
        have b6 : decide ((i : Int) < n) = true := by simp; omega
        have b6' : decide (i < n) = true := by simp; omega
        have g2 : (0 : Int) ≤ i := by omega
        have g3 : (i : Int) < n := by omega
        have wi : IntKind.i64.wrap ((i : Int) + 1) = (i : Int) + 1 := IntWalk.i64_in _ (by omega)
        have e1 := HCA.out _ F3.out
        have hlen8 := hsp.len
        clear hcA hsp
        by_cases h8 : lB.length ≤ 8
        · have b7 : decide ((8 : Int) < (lB.length : Int)) = false := decide_eq_false (by omega)
          have b7' : decide (8 < lB.length) = false := decide_eq_false (by omega)
          have wl : IntKind.i64.wrap ((lB.length : Int) - 1) = (lB.length : Int) - 1 := IntWalk.i64_in _ (by omega)
          go_wp2_with fail
          go_loopw [4, 6, 7] (fun v4 v6 v7 V => ∃ (j m a : Nat), v4 = .int .i64 m ∧ v6 = .int .i64 a ∧ v7 = .int .i64 ((j : Int) - 1) ∧ j ≤ lB.length ∧ Hid (SH w q u0 m a V) ∧ Hid (Fr [] w V)) (fun _ _ v7 _ => (intOf v7 + 1).toNat)
          case atStart => exact ⟨lB.length, m, 0, rfl, rfl, rfl, Nat.le_refl _, N3, F3⟩
          case round =>
            clear N3 F3 e1
            obtain ⟨j, m, a, rfl, rfl, rfl, hj, N4, F4⟩ := hrel
            cases j with
            | zero =>
              have N5 := Lib.hid N4.out.zero
              rw [show (((0 : Nat) : Int) - 1) = -1 from rfl]
              go_wp2_with fail
              go_roundw
              case rel => exact ⟨i + 1, m, rfl, by go_num, by omega, N5, F4⟩
              case measure => simp [intOf]; omega
            | succ t =>
              have ez : (((t + 1 : Nat) : Int) - 1) = (t : Int) := by omega
              rw [ez]
              obtain ⟨gB, oB, rfl, hcB, hgB⟩ := HSP.out.at_ t (by omega)
              have hst : lB[t]?.getD [] ∈ lB := by rw [List.getElem?_eq_getElem (by omega : t < lB.length)]; exact List.getElem_mem _
              have hs := HSP.out.lt _ hst
              have hsl := HSP.out.each _ hst
              have HCB := Lib.hid (fun V (hV : Fr [] w V) => (hV.cell (p := ⟨gB, oB + t, none⟩) hgB (by simp)).trans hcB)
              generalize lB[t]?.getD [] = st at *
              have HLb := Lib.hid (fun V => x2label V st hs hsl)
              have wt : IntKind.i64.wrap ((t : Int) - 1) = (t : Int) - 1 := IntWalk.i64_in _ (by omega)
              have t0 : (0 : Int) ≤ t := by omega
              have t1 : (t : Int) < lB.length := by omega
              have e1 := HCA.out _ F4.out
              have e2 := HCB.out _ F4.out
              clear hcB hst hsl ez
              by_cases hk : labOk st = true
              · rw [if_pos hk] at HLb
                have hl63 := labOk_len hk
                have HFi := Lib.hid (s_find N4.out hs hk)
                have HLow := Lib.hid (fun V => x2lower V st hs (by omega))
                have HAg := Lib.hid (fun V m x (hV : SHx w q u0 m a x st V) => s_again hV hs hk)
                have HLa := Lib.hid (fun V m x (hV : SHx w q u0 m a x st V) => s_label hV)
                have hfm := N4.out.few
                generalize strOf (st.map lowB) = s2 at *
                generalize strOf st = s1 at *
                clear hk hl63 hs
                go_wp2_with fail
                with_reducible refine (HLb.out _).mono ?_
                rintro e w5 ⟨rfl, he⟩
                rw [he]
                clear he HLb
                go_wp2_with fail
                with_reducible refine HFi.out.mono ?_
                rintro e w6 ⟨f6, ⟨x, rfl, n6⟩ | ⟨rfl, hmd⟩⟩
                · have N6 := Lib.hid n6
                  have hx0 := n6.next.2
                  have F6 := Lib.hid (F4.out.step f6 (fun k hk => .inr (HQ.out k hk)))
                  clear n6 f6 HFi F4 N4 e1 e2
                  have e1 := HCA.out _ F6.out
                  have e2 := HCB.out _ F6.out
                  have bx : ((x : Int) == 0) = false := by simp; omega
                  have bx' : (x == 0) = false := by simp; omega
                  clear hx0
                  go_wp2_with fail
                  with_reducible refine (HLow.out _).mono ?_
                  rintro e w10 ⟨rfl, f10⟩
                  have N10 := Lib.hid (N6.out.fr0 f10)
                  have F10 := Lib.hid (F6.out.trans f10)
                  clear f10 N6 F6 e1 e2
                  have e1 := HCA.out _ F10.out
                  have e2 := HCB.out _ F10.out
                  go_wp2_with fail
                  with_reducible refine (HAg.out _ _ _ N10.out).mono ?_
                  rintro e w11 ⟨rfl, n11, f11⟩
                  have N11 := Lib.hid n11
                  have F11 := Lib.hid (F10.out.step f11 (fun k hk => .inr (HQ.out k hk)))
                  clear n11 f11 N10 F10 e1 e2 HAg
                  have e1 := HCA.out _ F11.out
                  have e2 := HCB.out _ F11.out
                  go_wp2_with fail
                  with_reducible refine (HLa.out _ _ _ N11.out).mono ?_
                  rintro e w12 ⟨rfl, n12, f12⟩
                  have N12 := Lib.hid n12
                  have F12 := Lib.hid (F11.out.step f12 (fun k hk => .inr (HQ.out k hk)))
                  clear n12 f12 N11 F11 e1 e2 HLa
                  have e1 := HCA.out _ F12.out
                  have e2 := HCB.out _ F12.out
                  go_wp2_with fail
                  with_reducible refine (HLow.out _).mono ?_
                  rintro e w13 ⟨rfl, f13⟩
                  have N13 := Lib.hid (N12.out.fr0 f13).next.1
                  have F13 := Lib.hid (F12.out.trans f13)
                  clear f13 N12 F12 e1 e2 HLow
                  have e1 := HCA.out _ F13.out
                  have e2 := HCB.out _ F13.out
                  go_wp2_with fail
                  go_roundw
                  case rel => exact ⟨t, m, x, rfl, rfl, by go_num, by omega, N13, F13⟩
                  case measure => simp [intOf]
                · have F6 := Lib.hid (F4.out.step f6 (fun k hk => .inr (HQ.out k hk)))
                  have HMd := Lib.hid (hmd w6 rfl)
                  clear hmd f6 HFi F4 N4 e1 e2
                  have e1 := HCA.out _ F6.out
                  have e2 := HCB.out _ F6.out
                  go_wp2_with fail
                  with_reducible refine HMd.out.mono ?_
                  rintro e w7 ⟨x, rfl, hx20, f7, ⟨rfl, l7, par7, refs7, B7, n7⟩ | ⟨hx0, n7⟩⟩
                  · have F7 := Lib.hid (F6.out.step f7 (fun k hk => .inr (HQ.out k hk)))
                    have HFr := Lib.hid (p_free n7)
                    clear n7 f7 F6 HMd
                    go_wp2_with fail
                    with_reducible refine HFr.out.mono ?_
                    rintro e w8 ⟨rfl, -, f8⟩
                    have F8 := Lib.hid (F7.out.step f8 (fun k hk => .inr (HQ.out k hk)))
                    clear f8 F7 HFr
                    go_wp2_with fail
                    with_reducible refine (HGo.out _ F8.out).mono ?_
                    rintro e w9 ⟨rfl, f9⟩
                    have F9 := Lib.hid (F8.out.trans f9)
                    clear f9
                    go_wp2_with fail
                    go_ret
                    exact ⟨rfl, F9.out⟩
                  · have N6 := Lib.hid n7
                    have F6' := Lib.hid (F6.out.step f7 (fun k hk => .inr (HQ.out k hk)))
                    clear n7 f7 F6 HMd e1 e2
                    have F6 := F6'
                    clear F6'
                    have e1 := HCA.out _ F6.out
                    have e2 := HCB.out _ F6.out
                    have wm : IntKind.i64.wrap ((m : Int) + 1) = ((m + 1 : Nat) : Int) := by rw [IntWalk.i64_in _ (by omega)]; push_cast; rfl
                    have bx : ((x : Int) == 0) = false := by simp; omega
                    have bx' : (x == 0) = false := by simp; omega
                    clear hx0
                    go_wp2_with fail
                    with_reducible refine (HLow.out _).mono ?_
                    rintro e w10 ⟨rfl, f10⟩
                    have N10 := Lib.hid (N6.out.fr0 f10)
                    have F10 := Lib.hid (F6.out.trans f10)
                    clear f10 N6 F6 e1 e2
                    have e1 := HCA.out _ F10.out
                    have e2 := HCB.out _ F10.out
                    go_wp2_with fail
                    with_reducible refine (HAg.out _ _ _ N10.out).mono ?_
                    rintro e w11 ⟨rfl, n11, f11⟩
                    have N11 := Lib.hid n11
                    have F11 := Lib.hid (F10.out.step f11 (fun k hk => .inr (HQ.out k hk)))
                    clear n11 f11 N10 F10 e1 e2 HAg
                    have e1 := HCA.out _ F11.out
                    have e2 := HCB.out _ F11.out
                    go_wp2_with fail
                    with_reducible refine (HLa.out _ _ _ N11.out).mono ?_
                    rintro e w12 ⟨rfl, n12, f12⟩
                    have N12 := Lib.hid n12
                    have F12 := Lib.hid (F11.out.step f12 (fun k hk => .inr (HQ.out k hk)))
                    clear n12 f12 N11 F11 e1 e2 HLa
                    have e1 := HCA.out _ F12.out
                    have e2 := HCB.out _ F12.out
                    go_wp2_with fail
                    with_reducible refine (HLow.out _).mono ?_
                    rintro e w13 ⟨rfl, f13⟩
                    have N13 := Lib.hid (N12.out.fr0 f13).next.1
                    have F13 := Lib.hid (F12.out.trans f13)
                    clear f13 N12 F12 e1 e2 HLow
                    have e1 := HCA.out _ F13.out
                    have e2 := HCB.out _ F13.out
                    go_wp2_with fail
                    go_roundw
                    case rel => exact ⟨t, m + 1, x, rfl, rfl, by go_num, by omega, N13, F13⟩
                    case measure => simp [intOf]
              · rw [if_neg hk] at HLb
                clear hk hs
                generalize strOf st = s1 at *
                go_wp2_with fail
                with_reducible refine (HLb.out _).mono ?_
                rintro e w5 ⟨rfl, he⟩
                rw [he]
                clear he HLb
                go_wp2_with fail
                with_reducible refine (HGo.out _ F4.out).mono ?_
                rintro e w6 ⟨rfl, f6⟩
                have F6 := Lib.hid (F4.out.trans f6)
                clear f6
                go_wp2_with fail
                go_ret
                exact ⟨rfl, F6.out⟩
        · have b7 : decide ((8 : Int) < (lB.length : Int)) = true := decide_eq_true (by omega)
          have b7' : decide (8 < lB.length) = true := decide_eq_true (by omega)
          go_wp2_with fail
          with_reducible refine (HGo.out _ F3.out).mono ?_
          rintro e w4 ⟨rfl, f4⟩
          have F4 := Lib.hid (F3.out.trans f4)
          clear f4
          go_wp2_with fail
          go_ret
          exact ⟨rfl, F4.out⟩
      · obtain rfl : i = n := by omega
        have b6 : decide ((i : Int) < i) = false := by simp
        have b6' : decide (i < i) = false := by simp
        have HC := Lib.hid (s_count N3.out)
        have HFl := Lib.hid (fun V (hV : SH w q u0 m 0 V) => s_flt hV)
        go_wp2_with fail
        with_reducible refine HC.out.mono ?_
        rintro e w5 ⟨rfl, n5, f5⟩
        have N5 := Lib.hid n5
        have F5 := Lib.hid (F3.out.step f5 (fun k hk => .inr (HQ.out k hk)))
        clear n5 f5 HC F3 N3
        go_wp2_with fail
        with_reducible refine (HFl.out _ N5.out).mono ?_
        rintro e w6 ⟨rfl, n6, f6⟩
        have F6 := Lib.hid (F5.out.step f6 (fun k hk => .inr (HQ.out k hk)))
        clear n6 f6 F5 N5
        go_wp2_with fail
        with_reducible refine (HGo.out _ F6.out).mono ?_
        rintro e w7 ⟨rfl, f7⟩
        have F7 := Lib.hid (F6.out.trans f7)
        clear f7
        go_wp2_with fail
        go_ret
        exact ⟨rfl, F7.out⟩
  · have b0 : decide ((20 : Int) < (n : Int)) = true := decide_eq_true (by omega)
    have b0' : decide (20 < n) = true := decide_eq_true (by omega)
    go_enter Tryz.func4, Tryz.ntmps4
    go_wp2_with fail
    with_reducible refine (HGo.out _ (Fr.refl [] w)).mono ?_
    rintro e w1 ⟨rfl, f1⟩
    have F1 := Lib.hid f1
    clear f1
    go_wp2_with fail
    go_ret
    exact ⟨rfl, F1.out⟩
theorem walk_nsharesW (w : World) (h : TabM w ∧ Tabs w) (ad : Option Addr) (cap : Nat) (ls : List StP) (hA : StrB w ad ls) : Calls Tryz.prog 4 #[.slice ad ls.length cap] w fun e w' => e = .returned (.bool true) ∧ Fr [] w w' := walk_nshares w h.1 h.2 ad cap ls hA
end
end Go.Proofs.YtellbfamofilaaaGreatDoor
