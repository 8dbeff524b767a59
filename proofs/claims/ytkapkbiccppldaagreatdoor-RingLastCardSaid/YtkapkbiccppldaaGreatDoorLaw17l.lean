/- RingLast: the walk. -/
import Derived.Test.YtkapkbiccppldaaGreatDoorKB
import Derived.Test.YtkapkbiccppldaaGreatDoorOpen17
import Derived.Lib.MinMax
import Derived.BigQuiet
namespace Go.Proofs.YtkapkbiccppldaaGreatDoor
set_option linter.unusedVariables false
set_option linter.unusedSimpArgs false
open Go.RowKit

section
variable {w0 W W' : World} {q : MH} {S S' : SS} {R D : List Nat} {b x n j : Nat} {t u v : TM} {E E' : Nat → HB} {ft : Int}
def KL (w0 : World) (q : MH) (W : World) : Prop := ∃ S R b f, GX w0 q S R b f W
def KM (w0 : World) (q : MH) (R : List Nat) (W : World) : Prop := ∃ S b f, GX w0 q S R b f W
def KE (w0 : World) (q : MH) (R : List Nat) (x : Nat) (W : World) : Prop := ∃ S b f, GX w0 q S R b f W ∧ LvP S x ∧ x ∉ R
theorem KL.f (h : KL w0 q W) : Fr [] w0 W := by
  obtain ⟨S, R, b, f, g⟩ := h
  exact g.f
theorem KM.fr0 (h : KM w0 q R W) (hf : Fr [] W W') : KM w0 q R W' := by
  obtain ⟨S, b, f, g⟩ := h
  exact ⟨S, b, f, g.fr0 hf⟩
theorem KM.f (h : KM w0 q R W) : Fr [] w0 W := by
  obtain ⟨S, b, f, g⟩ := h
  exact g.f
theorem KM.len (h : KM w0 q R W) : R.length ≤ 1048576 := by
  obtain ⟨S, b, f, g⟩ := h
  exact g.len
theorem kl_all (h : KL w0 q W) : Calls Tryz.prog 44 #[.pointer (some ⟨q.m, 0, none⟩)] W fun e w' => ∃ R ad cap, e = .returned (.slice ad R.length cap) ∧ RowV w' W.heap.size ad cap R ∧ KM w0 q R w' := by
  obtain ⟨S, R, b, f, g⟩ := h
  refine (x_all g).mono fun e w' ⟨v, he, r, g', _⟩ => ?_
  obtain ⟨ad, cap, rfl, hr⟩ := own_row r
  exact ⟨R, ad, cap, he, hr, S, b, f, g'⟩
theorem kl_rem (h : KM w0 q R W) (n : Int) : Calls Tryz.prog 47 #[.pointer (some ⟨q.m, 0, none⟩), .int .i64 (pkL R n)] W fun e w' => ∃ c : Int, e = .returned (.int .i64 c) ∧ KL w0 q w' := by
  obtain ⟨S, b, f, g⟩ := h
  by_cases h0 : R = []
  · subst h0
    exact (x_rem0 g).mono fun e w' ⟨he, ⟨f', g'⟩, _⟩ => ⟨30, he, S, [], b, f', g'⟩
  · have hm := pk_mem h0 n
    generalize pkL R n = x at *
    obtain ⟨A, B, rfl⟩ := List.append_of_mem hm
    exact (x_rem g).mono fun e w' ⟨he, g', _⟩ => ⟨0, he, S, _, _, f, g'⟩
theorem kl_turn (h : KM w0 q R W) : Calls Tryz.prog 43 #[.pointer (some ⟨q.m, 0, none⟩)] W fun e w' => ∃ c : Int, e = .returned (.int .i64 c) ∧ KL w0 q w' := by
  obtain ⟨S, b, f, g⟩ := h
  cases R with
  | nil => exact (x_turn0 g).mono fun e w' ⟨he, g', _⟩ => ⟨0, he, S, _, _, f, g'⟩
  | cons a T => exact (x_turn1 g).mono fun e w' ⟨he, g', _⟩ => ⟨a, he, S, _, _, f, g'⟩
theorem kl_brush (h : KM w0 q R W) : Calls Tryz.prog 45 #[.pointer (some ⟨q.m, 0, none⟩)] W fun e w' => ∃ c : Int, e = .returned (.int .i64 c) ∧ KL w0 q w' := by
  obtain ⟨S, b, f, g⟩ := h
  by_cases h0 : R = []
  · subst h0
    exact (x_brush0 g).mono fun e w' ⟨he, g', _⟩ => ⟨0, he, S, _, _, f, g'⟩
  · have hb : b ∈ R := by
      obtain ⟨u, E, g, _⟩ := g
      exact g.rg.bin h0
    obtain ⟨A, B, rfl⟩ := List.append_of_mem hb
    exact (x_brush1 g).mono fun e w' ⟨he, g', _⟩ => ⟨b, he, S, _, _, f, g'⟩
theorem kl_entry (h : KM w0 q R W) (c : Int) : Calls Tryz.prog 41 #[.pointer (some ⟨q.m, 0, none⟩), .int .i64 c] W fun e w' => ∃ x : Nat, e = .returned (.int .i64 x) ∧ ((x = 0 ∧ KL w0 q w') ∨ (0 < x ∧ KE w0 q R x w')) := by
  obtain ⟨S, b, f, g⟩ := h
  refine (x_entry g c).mono fun e w' ⟨x, he, _, hE⟩ => ⟨x, he, ?_⟩
  rcases hE with ⟨_, h0, g'⟩ | ⟨_, _, _, _, g', h1, h2, h3, _, _⟩
  · exact .inl ⟨h0, _, _, _, _, g'⟩
  · refine .inr ⟨h3, _, _, _, g', h1, fun hm => h2 ?_⟩
    obtain ⟨u, E, g, _⟩ := g
    exact g.rg.sub x hm
theorem kl_ins (h : KE w0 q R x W) : Calls Tryz.prog 42 #[.pointer (some ⟨q.m, 0, none⟩), .int .i64 x] W fun e w' => ∃ c : Int, e = .returned (.int .i64 c) ∧ KL w0 q w' := by
  obtain ⟨S, b, f, g, h1, h2⟩ := h
  exact (x_ins g h1 h2).mono fun e w' ⟨he, g', _⟩ => ⟨0, he, S, _, _, f, g'⟩
/-- All, and then what is inserted may be removed again. -/
theorem kl_end (h : KE w0 q R x W) : ∃ S b u E, GU w0 q S R b u E W ∧ LvP S x ∧ x ∉ R := by
  obtain ⟨S, b, f, ⟨u, E, g, _⟩, h1, h2⟩ := h
  exact ⟨S, b, u, E, g, h1, h2⟩
theorem u_backR (g : GU w0 q S R b u E W) (hx : LvP S x) (hn : x ∉ R) {V : World} (hV : GU w0 q S (R ++ [x]) (insB R b x) (insT u E R x) (insH E R x) V) : Calls Tryz.prog 47 #[.pointer (some ⟨q.m, 0, none⟩), .int .i64 x] V fun e V' => e = .returned (.int .i64 0) ∧ Fr q.blocks V V' ∧ ∃ u' E', GU w0 q S R b u' E' V' ∧ u'.bytes = u.bytes := by
  have hb : remB R [] (insB R b x) x = b := by
    unfold remB insB
    by_cases h0 : R = []
    · rw [if_pos h0, if_pos rfl, h0, g.rg.bnil h0]; rfl
    · rw [if_neg h0, if_neg (fun e : b = x => hn (e ▸ g.rg.bin h0))]
  have n1 := g.rg.nbrIns hx
  have n2 := hV.rg.nbrRem (x := x) (List.mem_append.2 (.inr (List.mem_singleton.2 rfl))) (R ++ []).length (by simp)
  have hc := u_rem (A := R) (B := []) hV
  rw [hb] at hc
  refine hc.mono fun e V' ⟨he, k1, k2⟩ => ⟨he, k2, _, _, by rw [List.append_nil] at k1; exact k1, ?_⟩
  have k3 := k1.rg
  rw [List.append_nil] at k3
  have n3 := n1.trans n2
  rw [List.append_nil] at n3
  exact g.rg.bytes k3 n3
theorem take_row {base cap : Nat} {ad : Option Addr} (h : RowV W base ad cap (R ++ [x])) : RowV W base ad cap R := fun h0 => by
  obtain ⟨g, e, hg, cur, hb, hs, hl, ht⟩ := h (by simp)
  refine ⟨g, e, hg, cur, hb, hs, ?_, ?_⟩
  · rw [List.length_append] at hl; omega
  · have := congrArg (List.take R.length) ht
    rw [List.take_take, List.length_append] at this
    rw [Nat.min_eq_left (by omega)] at this
    rw [this]
    unfold intC
    rw [List.map_append, List.take_append_of_le_length (by simp)]
    exact List.take_of_length_le (by simp)
set_option maxRecDepth 100000 in
set_option maxHeartbeats 8000000 in
theorem walk_rlast (w : World) (hM : TabM w) (hT : Tabs w) (a : Option Addr) (c : Nat) (l : List A17) (h : ActA17 w a c l) : Calls Tryz.prog 8 #[.slice a l.length c] w fun e w' => e = .returned (.bool true) ∧ Fr [] w w' := by
  have HL := Lib.hid (fun (W : World) (hf : Fr [] w W) => turns17 W (hM.fr hf (by simp)) (hT.fr hf (by simp)))
  by_cases hgd : 100 < l.length
  · have b1 : decide ((100 : Int) < l.length) = true := by simp only [decide_eq_true_eq]; omega
    have b1' : decide (100 < l.length) = true := by simp only [decide_eq_true_eq]; omega
    have hL := HL.out w (Fr.refl _ _)
    generalize l.length = n at *
    clear hgd h
    go_enter Tryz.func8, Tryz.ntmps8
    go_wp2_with fail
    with_reducible refine hL.mono ?_
    rintro e w1 ⟨rfl, f1⟩
    go_wp2_with fail
    go_ret
    exact ⟨rfl, f1⟩
  have b1 : decide ((100 : Int) < l.length) = false := by simp only [decide_eq_false_iff_not]; omega
  have b1' : decide (100 < l.length) = false := by simp only [decide_eq_false_iff_not]; omega
  have hF := fresh17 w hM hT
  have HA := Lib.hid h
  generalize hnn : l.length = n at *
  have HN := Lib.hid hnn
  have hn100 : n ≤ 100 := by omega
  clear hgd h hM hT hnn
  go_enter Tryz.func8, Tryz.ntmps8
  go_wp2_with fail
  with_reducible refine hF.mono ?_
  rintro e w1 ⟨q, rfl, g1⟩
  have START := Lib.hid (show KL w q w1 from ⟨_, _, _, _, g1⟩)
  clear g1 hF b1 b1'
  go_wp2_with fail
  go_loopw [4] (fun v W => ∃ j : Nat, j ≤ n ∧ v = .int .i64 j ∧ Hid (KL w q W)) (fun v _ => n - (intOf v).toNat)
  case atStart => exact ⟨0, by omega, rfl, START⟩
  case round =>
    clear START
    obtain ⟨j, hj, rfl, hK⟩ := hrel
    by_cases hlt : j < n
    · have b1 : decide ((j : Int) < n) = true := by simp; omega
      have b1' : decide (j < n) = true := by simp; omega
      have w3 : IntKind.i64.wrap ((j : Int) + 1) = (j : Int) + 1 := IntWalk.i64_in _ (by omega)
      obtain ⟨B, off, rfl, hBl, hr⟩ := HA.out.row (by rw [HN.out]; omega)
      have hlt' : j < l.length := by rw [HN.out]; exact hlt
      have hrj := hr j hlt'
      have CK := Lib.hid (fun V (hV : Fr [] w V) => (hV.cell (p := ⟨B, off + j * 3, none⟩) hBl (by simp)).trans hrj.c0)
      have CN := Lib.hid (fun V (hV : Fr [] w V) => (hV.cell (p := ⟨B, off + j * 3 + 1, none⟩) hBl (by simp)).trans hrj.c1)
      generalize l[j]'hlt' = y at *
      obtain ⟨yk, yn, yc⟩ := y
      simp only at CK CN
      have hg2 : (0 : Int) ≤ j := by omega
      have hg3 : (j : Int) < n := by omega
      have F0 := Lib.hid hK.out.f
      have HAL := Lib.hid (fun V (hV : KL w q V) => kl_all hV)
      have hY := CN.out _ F0.out.drew
      have HD := Lib.hid (show KL w q wr.drew from by
        obtain ⟨S, R, b, f, g⟩ := hK.out
        exact ⟨S, R, b, f, g.fr0 (Fr.refl [] wr).drew⟩)
      clear hr hrj hlt
      go_wp2_with fail
      refine wp_region_held_drew (S := fun W => W.cell? ⟨B, off + j * 3 + 1, none⟩ = some (.int .i64 yn)) (by kernel_rfl) (hY) (fun hHeld => ?_)
      refine wpAnyH_take (i := 0) (oi := ?ooa0) (v := ?vva0) ?hia0 (by kernel_rfl) (by kernel_rfl) (by kernel_rfl) ?hqa0 (Or.inl ⟨?hwa0, ?hha0⟩) hHeld ?rra0
      case hia0 => (simp only [List.getElem?_toArray, List.getElem?_cons_zero, List.getElem?_cons_succ]; rfl)
      case hqa0 => exact fun _ _ _ h => h
      case hwa0 => rfl
      case hha0 => (intro w hSw; (try dsimp only at hSw); go_simp; try with_reducible rfl)
      try simp only [Act.put, List.setIfInBounds_toArray, List.set_cons_zero, List.set_cons_succ]
      refine wpAnyH_take (i := 2) (oi := ?ooa1) (v := ?vva1) ?hia1 (by kernel_rfl) (by kernel_rfl) (by kernel_rfl) ?hqa1 (Or.inl ⟨?hwa1, ?hha1⟩) hHeld ?rra1
      case hia1 => (simp only [List.getElem?_toArray, List.getElem?_cons_zero, List.getElem?_cons_succ]; rfl)
      case hqa1 => exact fun _ _ _ h => h
      case hwa1 => rfl
      case hha1 => (intro w hSw; (try dsimp only at hSw); go_simp; try with_reducible rfl)
      try simp only [Act.put, List.setIfInBounds_toArray, List.set_cons_zero, List.set_cons_succ]
      refine wpAnyH_take (i := 3) (oi := ?ooa2) (v := ?vva2) ?hia2 (by kernel_rfl) (by kernel_rfl) (by kernel_rfl) ?hqa2 (Or.inl ⟨?hwa2, ?hha2⟩) hHeld ?rra2
      case hia2 => (simp only [List.getElem?_toArray, List.getElem?_cons_zero, List.getElem?_cons_succ]; rfl)
      case hqa2 => exact fun _ _ _ h => h
      case hwa2 => rfl
      case hha2 => (intro w hSw; (try dsimp only at hSw); go_simp; try with_reducible rfl)
      try simp only [Act.put, List.setIfInBounds_toArray, List.set_cons_zero, List.set_cons_succ]
      refine wpAnyH_take (i := 4) (oi := ?ooa3) (v := ?vva3) ?hia3 (by kernel_rfl) (by kernel_rfl) (by kernel_rfl) ?hqa3 (Or.inl ⟨?hwa3, ?hha3⟩) hHeld ?rra3
      case hia3 => (simp only [List.getElem?_toArray, List.getElem?_cons_zero, List.getElem?_cons_succ]; rfl)
      case hqa3 => exact fun _ _ _ h => h
      case hwa3 => rfl
      case hha3 => (intro w hSw; (try dsimp only at hSw); go_simp; try with_reducible rfl)
      try simp only [Act.put, List.setIfInBounds_toArray, List.set_cons_zero, List.set_cons_succ]
      refine wpAnyH_take (i := 5) (oi := ?ooa4) (v := ?vva4) ?hia4 (by kernel_rfl) (by kernel_rfl) (by kernel_rfl) ?hqa4 (Or.inl ⟨?hwa4, ?hha4⟩) hHeld ?rra4
      case hia4 => (simp only [List.getElem?_toArray, List.getElem?_cons_zero, List.getElem?_cons_succ]; rfl)
      case hqa4 => exact fun _ _ _ h => h
      case hwa4 => rfl
      case hha4 => (intro w hSw; (try dsimp only at hSw); go_simp; try with_reducible rfl)
      try simp only [Act.put, List.setIfInBounds_toArray, List.set_cons_zero, List.set_cons_succ]
      refine wpAnyH_take (i := 6) (oi := ?ooa5) (v := ?vva5) ?hia5 (by kernel_rfl) (by kernel_rfl) (by kernel_rfl) ?hqa5 (Or.inl ⟨?hwa5, ?hha5⟩) hHeld ?rra5
      case hia5 => (simp only [List.getElem?_toArray, List.getElem?_cons_zero, List.getElem?_cons_succ]; rfl)
      case hqa5 => exact fun _ _ _ h => h
      case hwa5 => rfl
      case hha5 => (intro w hSw; (try dsimp only at hSw); go_simp; try with_reducible rfl)
      try simp only [Act.put, List.setIfInBounds_toArray, List.set_cons_zero, List.set_cons_succ]
      refine wpAnyH_ready (rs := [1]) (by kernel_rfl) (by simp) ?_
      refine AllReadyH.cons (o := ?ooa6) ?hia6 (fun K hK => ?hca6) AllReadyH.nil
      case hia6 => (simp only [List.getElem?_toArray, List.getElem?_cons_zero, List.getElem?_cons_succ]; rfl)
      go_simp
      with_reducible refine (HAL.out _ HD.out).mono ?_
      rintro e W1 ⟨R, ad, cap, rfl, hrow, k1⟩
      have K1 := Lib.hid k1
      have ROW := Lib.hid hrow
      have LEN := Lib.hid k1.len
      have hY := CN.out _ k1.f
      clear hrow k1
      go_wp2_with fail
      refine hK.out _ _ (hY) (fun hHeld => ?_)
      clear hK K
      try simp only [Act.put, List.setIfInBounds_toArray, List.set_cons_zero, List.set_cons_succ]
      refine wpAnyH_ready (rs := [7]) (by kernel_rfl) (by simp) ?_
      refine AllReadyH.cons (o := ?ooa7) ?hia7 (fun K hK => ?hca7) AllReadyH.nil
      case hia7 => (simp only [List.getElem?_toArray, List.getElem?_cons_zero, List.getElem?_cons_succ]; rfl)
      go_simp
      with_reducible refine (xpick ROW.out LEN.out yn).mono ?_
      rintro e W2 ⟨rfl, f2⟩
      have K2 := Lib.hid (K1.out.fr0 f2)
      have hY := CN.out _ K2.out.f
      have c0 := CK.out _ K2.out.f
      clear f2
      go_wp2_with fail
      refine hK.out _ _ (hY) (fun hHeld => ?_)
      clear hK K
      try simp only [Act.put, List.setIfInBounds_toArray, List.set_cons_zero, List.set_cons_succ]
      refine wpAnyH_take (i := 8) (oi := ?ooa8) (v := ?vva8) ?hia8 (by kernel_rfl) (by kernel_rfl) (by kernel_rfl) ?hqa8 (Or.inl ⟨?hwa8, ?hha8⟩) hHeld ?rra8
      case hia8 => (simp only [List.getElem?_toArray, List.getElem?_cons_zero, List.getElem?_cons_succ]; rfl)
      case hqa8 => exact fun _ _ _ h => h
      case hwa8 => rfl
      case hha8 => (intro w hSw; (try dsimp only at hSw); go_simp; try with_reducible rfl)
      try simp only [Act.put, List.setIfInBounds_toArray, List.set_cons_zero, List.set_cons_succ]
      refine wpAnyH_done (by kernel_rfl) ?_ _
      have HREM := Lib.hid (kl_rem K2.out yn)
      have HTU := Lib.hid (kl_turn K2.out)
      have HBR := Lib.hid (kl_brush K2.out)
      have HEN := Lib.hid (kl_entry K2.out 1)
      generalize pkL R yn = px at *
      clear ROW LEN K1 hY HAL HD
      try simp only [Act.put, List.getElem_toArray, List.getElem_cons_zero, List.getElem_cons_succ, List.setIfInBounds_toArray, List.set_cons_zero, List.set_cons_succ]
      by_cases e2 : yk = 2
      · have b2 : (yk == 2) = true := by rw [e2]; rfl
        go_wp2_with fail
        with_reducible refine HREM.out.mono ?_
        rintro e w4 ⟨rc, rfl, h4⟩
        have H4 := Lib.hid h4
        clear h4
        go_wp2_with fail
        go_roundw
        case rel => exact ⟨j + 1, by omega, by go_num, H4⟩
        case measure => simp [intOf]; omega
      · have b2 : (yk == 2) = false := by rw [beq_eq_false_iff_ne]; exact e2
        by_cases e3 : yk = 3
        · have b3 : (yk == 3) = true := by rw [e3]; rfl
          go_wp2_with fail
          with_reducible refine HREM.out.mono ?_
          rintro e w4 ⟨rc, rfl, h4⟩
          have H4 := Lib.hid h4
          clear h4
          go_wp2_with fail
          go_roundw
          case rel => exact ⟨j + 1, by omega, by go_num, H4⟩
          case measure => simp [intOf]; omega
        · have b3 : (yk == 3) = false := by rw [beq_eq_false_iff_ne]; exact e3
          by_cases e4 : yk = 4
          · have b4 : (yk == 4) = true := by rw [e4]; rfl
            go_wp2_with fail
            with_reducible refine HTU.out.mono ?_
            rintro e w4 ⟨rc, rfl, h4⟩
            have H4 := Lib.hid h4
            clear h4
            go_wp2_with fail
            go_roundw
            case rel => exact ⟨j + 1, by omega, by go_num, H4⟩
            case measure => simp [intOf]; omega
          · have b4 : (yk == 4) = false := by rw [beq_eq_false_iff_ne]; exact e4
            by_cases e5 : yk = 5
            · have b5 : (yk == 5) = true := by rw [e5]; rfl
              go_wp2_with fail
              with_reducible refine HBR.out.mono ?_
              rintro e w4 ⟨rc, rfl, h4⟩
              have H4 := Lib.hid h4
              clear h4
              go_wp2_with fail
              go_roundw
              case rel => exact ⟨j + 1, by omega, by go_num, H4⟩
              case measure => simp [intOf]; omega
            · have b5 : (yk == 5) = false := by rw [beq_eq_false_iff_ne]; exact e5
              go_wp2_with fail
              with_reducible refine HEN.out.mono ?_
              rintro e w4 ⟨x, rfl, h4⟩
              rcases h4 with ⟨rfl, h4⟩ | ⟨hx, h4⟩
              · have H4 := Lib.hid h4
                clear h4
                go_wp2_with fail
                go_roundw
                case rel => exact ⟨j + 1, by omega, by go_num, H4⟩
                case measure => simp [intOf]; omega
              · have b6 : decide ((0 : Int) < x) = true := by simp only [decide_eq_true_eq]; omega
                have b6' : decide (0 < x) = true := by simp only [decide_eq_true_eq]; omega
                have hI := kl_ins h4
                clear h4
                go_wp2_with fail
                with_reducible refine hI.mono ?_
                rintro e w5 ⟨rc, rfl, h5⟩
                have H5 := Lib.hid h5
                clear h5 hI
                go_wp2_with fail
                go_roundw
                case rel => exact ⟨j + 1, by omega, by go_num, H5⟩
                case measure => simp [intOf]; omega
    · have b1 : decide ((j : Int) < n) = false := by simp; omega
      have b1' : decide (j < n) = false := by simp; omega
      have HEN := Lib.hid (show ∃ R, KM w q R wr from by
        obtain ⟨S, R, b, f, g⟩ := hK.out
        exact ⟨R, S, b, f, g⟩)
      obtain ⟨R, hKM⟩ := HEN.out
      have HEN := Lib.hid (kl_entry hKM 3)
      clear hlt hKM hK
      go_wp2_with fail
      with_reducible refine HEN.out.mono ?_
      rintro e w4 ⟨x, rfl, h4⟩
      rcases h4 with ⟨rfl, h4⟩ | ⟨hx, h4⟩
      · have F4 := Lib.hid h4.f
        have hL := HL.out _ h4.f
        clear h4
        go_wp2_with fail
        with_reducible refine hL.mono ?_
        rintro e w5 ⟨rfl, f5⟩
        go_wp2_with fail
        go_ret
        exact ⟨rfl, F4.out.trans f5⟩
      · have c3 : ((x : Int) == 0) = false := by rw [beq_eq_false_iff_ne]; omega
        have c3' : (x == 0) = false := by rw [beq_eq_false_iff_ne]; omega
        obtain ⟨S, b, u, E, hG, hLx, hxR⟩ := kl_end h4
        have hq4 := hG.h.m.lt
        have HQ := Lib.hid hq4
        have hlen := hG.rg.len
        have hIM := u_image hG
        have HIM2 := Lib.hid (fun V u' E' (hV : GU w q S R b u' E' V) (e : u'.bytes = u.bytes) => (show Calls Tryz.prog 27 #[.pointer (some ⟨q.m, 0, none⟩)] V fun e w' => ∃ g cap, e = .returned (.slice (some ⟨g, 0, none⟩) u.bytes.length cap) ∧ V.heap.size ≤ g ∧ RowB w' g cap u.bytes ∧ Fr [] V w' from by
          have := u_image hV
          rw [e] at this
          exact this))
        have hbt := hG.h.m.m.ar.byte
        have hln : u.bytes.length ≤ 1048576 := by
          rw [TM.bytes_len]
          have := cfg_sizes hG.h.m.ok.cfg
          rw [hG.a, hG.s] at this ⊢
          unfold lsize lbase
          decide
        have HCV := Lib.hid (show ∀ W g cw, RowB W g cw u.bytes → (convert 44 9 (.slice (some ⟨g, 0, none⟩) u.bytes.length cw)).run Tryz.prog W = .ok (.string (strOf u.bytes)) W from fun W g cw hr => conv_str W _ cw _ (hr.byt hbt (by omega)))
        have HG := Lib.hid hG
        have HUA := Lib.hid (fun V (hV : GU w q S R b u E V) => u_all hV)
        have HUI := Lib.hid (fun V (hV : GU w q S R b u E V) => u_ins hV hLx hxR)
        have HUB := Lib.hid (fun V (hV : GU w q S (R ++ [x]) (insB R b x) (insT u E R x) (insH E R x) V) => And.intro (u_all hV) (u_backR hG hLx hxR hV))
        have HLEN := Lib.hid hlen
        generalize strOf u.bytes = str at *
        obtain ⟨nb, hnb⟩ : ∃ n, u.bytes.length = n := ⟨_, rfl⟩
        have HNB := Lib.hid hnb
        rw [hnb] at hIM HIM2 HCV
        obtain ⟨nR, hnR⟩ : ∃ n, R.length = n := ⟨_, rfl⟩
        have HNR := Lib.hid hnR
        clear hG hbt hln hnb hLx hxR h4 HEN hlen hnR hq4
        go_wp2_with fail
        with_reducible refine hIM.mono ?_
        rintro e w5 ⟨gw, cw, rfl, hgw, hrw, f5⟩
        have G5 := Lib.hid (HG.out.fr0 f5)
        have RW := Lib.hid hrw
        have hgq := Lib.hid (show gw ∉ q.blocks from fun hm => by have := HQ.out gw hm; omega)
        have hs5 := f5.size
        clear hrw f5 hIM HG hgw
        go_wp2_with fail
        with_reducible refine (HUA.out _ G5.out).mono ?_
        rintro e w6 ⟨v1, rfl, r6, g6, f6⟩
        obtain ⟨ad1, cap1, rfl, row1⟩ := own_row r6
        have G6 := Lib.hid g6
        have ROW1 := Lib.hid row1
        have RW6 := Lib.hid (RW.out.fr f6 hgq.out)
        have hq5 := Lib.hid (show ∀ k ∈ q.blocks, k < w5.heap.size from fun k hk => by have := HQ.out k hk; omega)
        rw [HNR.out]
        clear r6 row1 g6 f6 HUA G5 RW
        go_wp2_with fail
        with_reducible refine (HUI.out _ G6.out).mono ?_
        rintro e w7 ⟨rfl, g7, f7⟩
        have G7 := Lib.hid g7
        have ROW2 := Lib.hid (ROW1.out.fr f7 hq5.out)
        have RW7 := Lib.hid (RW6.out.fr f7 hgq.out)
        clear g7 f7 HUI G6 ROW1 RW6
        go_wp2_with fail
        with_reducible refine (HUB.out _ G7.out).1.mono ?_
        rintro e w8 ⟨v2, rfl, r8, g8, f8⟩
        obtain ⟨ad2, cap2, rfl, row8⟩ := own_row r8
        have hl8 : (R ++ [x]).length = nR + 1 := by rw [List.length_append, HNR.out]; rfl
        obtain ⟨g2, rfl, _, ri8⟩ := row8 (by omega)
        have G8 := Lib.hid g8
        have ROW3 := Lib.hid (ROW2.out.fr f8 hq5.out)
        have RW8 := Lib.hid (RW7.out.fr f8 hgq.out)
        have cx := ri8.cell nR (by omega)
        have ex : (R ++ [x])[nR]'(by omega) = x := by
          rw [List.getElem_append_right (by rw [HNR.out]; exact Nat.le_refl _)]
          simp
        rw [ex] at cx
        have hc2 := ri8.le
        rw [hl8] at hc2 ⊢
        have HS := Lib.hid (show Calls Tryz.prog 32 #[.slice (some ⟨g2, 0, none⟩) nR cap2, .slice ad1 nR cap1] w8 fun e w' => e = .returned (.bool true) ∧ Fr [] w8 w' from by
          have := r14same (take_row row8) ROW3.out HLEN.out
          rw [HNR.out] at this
          exact this)
        have hnR2 : nR ≤ 1048576 := by have := HLEN.out; rw [HNR.out] at this; exact this
        clear r8 row8 g8 f8 ri8 ex G7 ROW2 RW7 ROW3
        have e1 : IntKind.i64.wrap ((nR : Int) + 1) = (nR : Int) + 1 := IntWalk.i64_in _ (by omega)
        have e2 : (((nR + 1 : Nat) : Int) != (nR : Int) + 1) = false := by simp
        have e3 : (0 : Int) ≤ nR := by omega
        have e4 : (nR : Int) < ((nR + 1 : Nat) : Int) := by omega
        have e5 : ((x : Int) != x) = false := by simp
        have e6 : nR ≤ cap2 := by omega
        have e6' : (nR : Int) ≤ cap2 := by omega
        go_wp2_with fail
        with_reducible refine HS.out.mono ?_
        rintro e w9 ⟨rfl, f9⟩
        have G9 := Lib.hid (G8.out.fr0 f9)
        have RW9 := Lib.hid (RW8.out.fr f9 (by simp))
        clear f9 G8 RW8 HS cx
        go_wp2_with fail
        have hY := HCV.out _ _ _ RW9.out.drew
        have G9d := Lib.hid (G9.out.fr0 (Fr.refl [] w9).drew)
        have RW9d := Lib.hid RW9.out.drew
        refine wp_region_held_drew (S := fun W => (convert 44 9 (.slice (some ⟨gw, 0, none⟩) nb cw)).run Tryz.prog W = .ok (.string str) W) (by kernel_rfl) (hY) (fun hHeld => ?_)
        refine wpAnyH_take (i := 0) (oi := ?oob0) (v := ?vvb0) ?hib0 (by kernel_rfl) (by kernel_rfl) (by kernel_rfl) ?hqb0 (Or.inl ⟨?hwb0, ?hhb0⟩) hHeld ?rrb0
        case hib0 => (simp only [List.getElem?_toArray, List.getElem?_cons_zero, List.getElem?_cons_succ]; rfl)
        case hqb0 => exact fun _ _ _ h => h
        case hwb0 => rfl
        case hhb0 => (intro w hSw; (try dsimp only at hSw); go_simp; try with_reducible rfl)
        try simp only [Act.put, List.setIfInBounds_toArray, List.set_cons_zero, List.set_cons_succ]
        refine wpAnyH_take (i := 1) (oi := ?oob1) (v := ?vvb1) ?hib1 (by kernel_rfl) (by kernel_rfl) (by kernel_rfl) ?hqb1 (Or.inl ⟨?hwb1, ?hhb1⟩) hHeld ?rrb1
        case hib1 => (simp only [List.getElem?_toArray, List.getElem?_cons_zero, List.getElem?_cons_succ]; rfl)
        case hqb1 => exact fun _ _ _ h => h
        case hwb1 => rfl
        case hhb1 => (intro w hSw; (try dsimp only at hSw); go_simp; try with_reducible rfl)
        try simp only [Act.put, List.setIfInBounds_toArray, List.set_cons_zero, List.set_cons_succ]
        refine wpAnyH_ready (rs := [2]) (by kernel_rfl) (by simp) ?_
        refine AllReadyH.cons (o := ?oob2) ?hib2 (fun K hK => ?hcb2) AllReadyH.nil
        case hib2 => (simp only [List.getElem?_toArray, List.getElem?_cons_zero, List.getElem?_cons_succ]; rfl)
        go_simp
        with_reducible refine (HUB.out _ G9d.out).2.mono ?_
        rintro e W1 ⟨rfl, f1, u', E', g1, eb⟩
        have G10 := Lib.hid g1
        have EB := Lib.hid eb
        have RW10 := Lib.hid (RW9d.out.fr f1 hgq.out)
        have hY := HCV.out _ _ _ RW10.out
        clear f1 g1 eb
        go_wp2_with fail
        refine hK.out _ _ (hY) (fun hHeld => ?_)
        clear hK K
        try simp only [Act.put, List.setIfInBounds_toArray, List.set_cons_zero, List.set_cons_succ]
        refine wpAnyH_take (i := 3) (oi := ?oob3) (v := ?vvb3) ?hib3 (by kernel_rfl) (by kernel_rfl) (by kernel_rfl) ?hqb3 (Or.inl ⟨?hwb3, ?hhb3⟩) hHeld ?rrb3
        case hib3 => (simp only [List.getElem?_toArray, List.getElem?_cons_zero, List.getElem?_cons_succ]; rfl)
        case hqb3 => exact fun _ _ _ h => h
        case hwb3 => rfl
        case hhb3 => (intro w hSw; (try dsimp only at hSw); go_simp; try with_reducible rfl)
        try simp only [Act.put, List.setIfInBounds_toArray, List.set_cons_zero, List.set_cons_succ]
        refine wpAnyH_take (i := 4) (oi := ?oob4) (v := ?vvb4) ?hib4 (by kernel_rfl) (by kernel_rfl) (by kernel_rfl) ?hqb4 (Or.inl ⟨?hwb4, ?hhb4⟩) hHeld ?rrb4
        case hib4 => (simp only [List.getElem?_toArray, List.getElem?_cons_zero, List.getElem?_cons_succ]; rfl)
        case hqb4 => exact fun _ _ _ h => h
        case hwb4 => rfl
        case hhb4 => (intro w hSw; (try dsimp only at hSw); go_simp; try with_reducible rfl)
        try simp only [Act.put, List.setIfInBounds_toArray, List.set_cons_zero, List.set_cons_succ]
        refine wpAnyH_take (i := 5) (oi := ?oob5) (v := ?vvb5) ?hib5 (by kernel_rfl) (by kernel_rfl) (by kernel_rfl) ?hqb5 (Or.inl ⟨?hwb5, ?hhb5⟩) hHeld ?rrb5
        case hib5 => (simp only [List.getElem?_toArray, List.getElem?_cons_zero, List.getElem?_cons_succ]; rfl)
        case hqb5 => exact fun _ _ _ h => h
        case hwb5 => rfl
        case hhb5 => (intro w hSw; (try dsimp only at hSw); go_simp; try with_reducible rfl)
        try simp only [Act.put, List.setIfInBounds_toArray, List.set_cons_zero, List.set_cons_succ]
        refine wpAnyH_take (i := 8) (oi := ?oob6) (v := ?vvb6) ?hib6 (by kernel_rfl) (by kernel_rfl) (by kernel_rfl) ?hqb6 (Or.inl ⟨?hwb6, ?hhb6⟩) hHeld ?rrb6
        case hib6 => (simp only [List.getElem?_toArray, List.getElem?_cons_zero, List.getElem?_cons_succ]; rfl)
        case hqb6 => exact fun _ _ _ h => h
        case hwb6 => rfl
        case hhb6 => (intro w hSw; (try dsimp only at hSw); go_simp; try with_reducible rfl)
        try simp only [Act.put, List.setIfInBounds_toArray, List.set_cons_zero, List.set_cons_succ]
        refine wpAnyH_take (i := 9) (oi := ?oob7) (v := ?vvb7) ?hib7 (by kernel_rfl) (by kernel_rfl) (by kernel_rfl) ?hqb7 (Or.inl ⟨?hwb7, ?hhb7⟩) hHeld ?rrb7
        case hib7 => (simp only [List.getElem?_toArray, List.getElem?_cons_zero, List.getElem?_cons_succ]; rfl)
        case hqb7 => exact fun _ _ _ h => h
        case hwb7 => rfl
        case hhb7 => (intro w hSw; (try dsimp only at hSw); go_simp; try with_reducible rfl)
        try simp only [Act.put, List.setIfInBounds_toArray, List.set_cons_zero, List.set_cons_succ]
        refine wpAnyH_ready (rs := [6]) (by kernel_rfl) (by simp) ?_
        refine AllReadyH.cons (o := ?oob8) ?hib8 (fun K hK => ?hcb8) AllReadyH.nil
        case hib8 => (simp only [List.getElem?_toArray, List.getElem?_cons_zero, List.getElem?_cons_succ]; rfl)
        go_simp
        with_reducible refine (HIM2.out _ _ _ G10.out EB.out).mono ?_
        rintro e W2 ⟨g3, c4, rfl, hgg3, hr3, f3⟩
        have G11 := Lib.hid (G10.out.fr0 f3)
        have RW11 := Lib.hid (RW10.out.fr f3 (by simp))
        have hs3 := HCV.out _ _ _ hr3
        have hY := HCV.out _ _ _ RW11.out
        have hL := HL.out _ G11.out.f
        clear hr3 f3 hgg3
        go_wp2_with fail
        refine hK.out _ _ (hY) (fun hHeld => ?_)
        clear hK K
        try simp only [Act.put, List.setIfInBounds_toArray, List.set_cons_zero, List.set_cons_succ]
        refine wpAnyH_ready (rs := [7]) (by kernel_rfl) (by simp) ?_
        refine AllReadyH.cons (o := ?oob9) ?hib9 (fun K hK => ?hcb9) AllReadyH.nil
        case hib9 => (simp only [List.getElem?_toArray, List.getElem?_cons_zero, List.getElem?_cons_succ]; rfl)
        go_simp
        refine hK.out _ _ (hY) (fun hHeld => ?_)
        clear hK K
        try simp only [Act.put, List.setIfInBounds_toArray, List.set_cons_zero, List.set_cons_succ]
        refine wpAnyH_take (i := 10) (oi := ?oob10) (v := ?vvb10) ?hib10 (by kernel_rfl) (by kernel_rfl) (by kernel_rfl) ?hqb10 (Or.inl ⟨?hwb10, ?hhb10⟩) hHeld ?rrb10
        case hib10 => (simp only [List.getElem?_toArray, List.getElem?_cons_zero, List.getElem?_cons_succ]; rfl)
        case hqb10 => exact fun _ _ _ h => h
        case hwb10 => rfl
        case hhb10 => (intro w hSw; (try dsimp only at hSw); go_simp; try with_reducible rfl)
        try simp only [Act.put, List.setIfInBounds_toArray, List.set_cons_zero, List.set_cons_succ]
        refine wpAnyH_take (i := 11) (oi := ?oob11) (v := ?vvb11) ?hib11 (by kernel_rfl) (by kernel_rfl) (by kernel_rfl) ?hqb11 (Or.inl ⟨?hwb11, ?hhb11⟩) hHeld ?rrb11
        case hib11 => (simp only [List.getElem?_toArray, List.getElem?_cons_zero, List.getElem?_cons_succ]; rfl)
        case hqb11 => exact fun _ _ _ h => h
        case hwb11 => rfl
        case hhb11 => (intro w hSw; (try dsimp only at hSw); go_simp; try with_reducible rfl)
        try simp only [Act.put, List.setIfInBounds_toArray, List.set_cons_zero, List.set_cons_succ]
        refine wpAnyH_take (i := 12) (oi := ?oob12) (v := ?vvb12) ?hib12 (by kernel_rfl) (by kernel_rfl) (by kernel_rfl) ?hqb12 (Or.inl ⟨?hwb12, ?hhb12⟩) hHeld ?rrb12
        case hib12 => (simp only [List.getElem?_toArray, List.getElem?_cons_zero, List.getElem?_cons_succ]; rfl)
        case hqb12 => exact fun _ _ _ h => h
        case hwb12 => rfl
        case hhb12 => (intro w hSw; (try dsimp only at hSw); go_simp; try with_reducible rfl)
        try simp only [Act.put, List.setIfInBounds_toArray, List.set_cons_zero, List.set_cons_succ]
        refine wpAnyH_ready (rs := [13]) (by kernel_rfl) (by simp) ?_
        refine AllReadyH.cons (o := ?oob13) ?hib13 (fun K hK => ?hcb13) AllReadyH.nil
        case hib13 => (simp only [List.getElem?_toArray, List.getElem?_cons_zero, List.getElem?_cons_succ]; rfl)
        go_simp
        with_reducible refine hL.mono ?_
        rintro e W4 ⟨rfl, f4⟩
        have F12 := Lib.hid (G11.out.f.trans f4)
        have hY := HCV.out _ _ _ (RW11.out.fr f4 (by simp))
        clear f4
        go_wp2_with fail
        refine hK.out _ _ (hY) (fun hHeld => ?_)
        clear hK K
        try simp only [Act.put, List.setIfInBounds_toArray, List.set_cons_zero, List.set_cons_succ]
        refine wpAnyH_take (i := 14) (oi := ?oob14) (v := ?vvb14) ?hib14 (by kernel_rfl) (by kernel_rfl) (by kernel_rfl) ?hqb14 (Or.inl ⟨?hwb14, ?hhb14⟩) hHeld ?rrb14
        case hib14 => (simp only [List.getElem?_toArray, List.getElem?_cons_zero, List.getElem?_cons_succ]; rfl)
        case hqb14 => exact fun _ _ _ h => h
        case hwb14 => rfl
        case hhb14 => (intro w hSw; (try dsimp only at hSw); go_simp; try with_reducible rfl)
        try simp only [Act.put, List.setIfInBounds_toArray, List.set_cons_zero, List.set_cons_succ]
        refine wpAnyH_take (i := 15) (oi := ?oob15) (v := ?vvb15) ?hib15 (by kernel_rfl) (by kernel_rfl) (by kernel_rfl) ?hqb15 (Or.inl ⟨?hwb15, ?hhb15⟩) hHeld ?rrb15
        case hib15 => (simp only [List.getElem?_toArray, List.getElem?_cons_zero, List.getElem?_cons_succ]; rfl)
        case hqb15 => exact fun _ _ _ h => h
        case hwb15 => rfl
        case hhb15 => (intro w hSw; (try dsimp only at hSw); go_simp; try with_reducible rfl)
        try simp only [Act.put, List.setIfInBounds_toArray, List.set_cons_zero, List.set_cons_succ]
        refine wpAnyH_done (by kernel_rfl) ?_ _
        try simp only [Act.put, List.getElem_toArray, List.getElem_cons_zero, List.getElem_cons_succ, List.setIfInBounds_toArray, List.set_cons_zero, List.set_cons_succ]
        go_wp2_with fail
        go_ret
        exact ⟨rfl, F12.out⟩
theorem walk_rlastW (w : World) (h : TabM w ∧ Tabs w) (a : Option Addr) (c : Nat) (l : List A17) (hl : ActA17 w a c l) : Calls Tryz.prog 8 #[.slice a l.length c] w fun e w' => e = .returned (.bool true) ∧ Fr [] w w' := walk_rlast w h.1 h.2 a c l hl
end
end Go.Proofs.YtkapkbiccppldaaGreatDoor
