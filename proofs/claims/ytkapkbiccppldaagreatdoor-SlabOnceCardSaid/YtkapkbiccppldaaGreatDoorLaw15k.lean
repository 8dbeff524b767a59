/- Layer 15: SlabBack. -/
import Derived.Test.YtkapkbiccppldaaGreatDoorGI
import Derived.Test.YtkapkbiccppldaaGreatDoorGC
import Derived.Test.YtkapkbiccppldaaGreatDoorGK
import Derived.Test.YtkapkbiccppldaaGreatDoorOpen15
import Derived.Lib.MinMax
import Derived.Lib.SlBytesConst
namespace Go.Proofs.YtkapkbiccppldaaGreatDoor
set_option linter.unusedVariables false
set_option linter.unusedSimpArgs false
open Go.RowKit

def vlen (v : Value) : Nat := match v with | .slice _ n _ => n | _ => 0
/-- The k-th of all: N modulo how many, without its sign. -/
def nthZ (x : Int) (n : Nat) : Nat := (x.tmod n).natAbs
theorem nthZ_lt (x : Int) (n : Nat) (h : 0 < n) : nthZ x n < n := by
  unfold nthZ
  have := Int.tmod_lt_of_pos x (show (0 : Int) < n by omega)
  have := Int.lt_tmod_of_pos x (show (0 : Int) < n by omega)
  omega
theorem nthZ_max (x : Int) (n : Nat) : max (x.tmod n) (-(x.tmod n)) = ((nthZ x n : Nat) : Int) := by unfold nthZ; omega
theorem tmod_in (x : Int) (n : Nat) (h0 : 0 < n) (hn : n ≤ 1048576) : IntKind.i64.wrap (x.tmod n) = x.tmod n ∧ IntKind.i64.wrap (-(x.tmod n)) = -(x.tmod n) := by
  have := Int.tmod_lt_of_pos x (show (0 : Int) < n by omega)
  have := Int.lt_tmod_of_pos x (show (0 : Int) < n by omega)
  exact ⟨IntWalk.i64_in _ (by omega), IntWalk.i64_in _ (by omega)⟩
theorem ownsRow_le9 {w : World} {base base' size n : Nat} {e : TypeId} {v : Value} {xs : List Value} (h : w.ownsRow base e size v n xs) (hb : base' ≤ base) : w.ownsRow base' e size v n xs :=
  ⟨h.1, h.2.elim Or.inl (fun ⟨g, cap, cur, hv, hg, r⟩ => Or.inr ⟨g, cap, cur, hv, Nat.le_trans hb hg, r⟩)⟩
/-- The bytes "something". -/
theorem byt_mk (w : World) (l : List Nat) (hl : ∀ b ∈ l, b < 256) (hn : l.length ≤ 1099511627776) (fz : Nat × Nat) : Byt (w.alloc (.cells (bytes l) 5 fz)) (some ⟨w.heap.size, 0, none⟩) l :=
  ⟨fun i hi => ⟨_, 0, rfl, by rw [World.cell?_alloc_mark, Nat.zero_add]; exact bytes_get l i hi, by simp⟩, hl, hn⟩
def smt : List Nat := [115, 111, 109, 101, 116, 104, 105, 110, 103]
theorem B15.re {wb W : World} {q : MH} {z : TM} {S : SS} {L : List Nat} (h : B15 wb W q z S L) : B15 W W q z S L :=
  ⟨h.x, Fr.refl _ _, fun k hk => Nat.lt_of_lt_of_le (h.lt k hk) h.f.size, Nat.le_trans h.g h.f.size, h.full, h.nd, h.mem⟩
theorem B15.start {w0 w : World} {q : MH} (h : M15 w0 q 7 224 SS.zero w) (hg : 5 ≤ w0.heap.size) : ∃ z, B15 w w q z SS.zero [] ∧ z.a = 7 ∧ z.ft = 0 ∧ z.Ok ∧ SlI z SS.zero := by
  obtain ⟨u, h1, h2, h3, h4, h5⟩ := h.x
  exact ⟨u, ⟨⟨u, h1, h2, Sla.refl u⟩, Fr.refl _ _, h1.m.lt, Nat.le_trans hg h.f.size, fun i hi hc => absurd rfl hc, List.nodup_nil, fun y => ⟨fun hy => by simp at hy, fun hy => by obtain ⟨n, i, hi, hm, _⟩ := hy; simp [SS.zero] at hm⟩⟩, h3, h5, h1.ok, h2⟩
/-- The walk's state: the variable's row is that of the live blocks. -/
structure KB (wb : World) (q : MH) (z : TM) (v : Value) (L : List Nat) (W : World) : Prop where
  b : ∃ S, B15 wb W q z S L
  o : W.ownsRow wb.heap.size 3 1 v L.length (intC L)
theorem KB.wb {wb W : World} {q : MH} {z : TM} {v : Value} {L : List Nat} (h : KB wb q z v L W) : wb.heap.size ≤ W.heap.size := by
  obtain ⟨S, h1⟩ := h.b
  exact h1.f.size
theorem KB.fr0 {wb W W' : World} {q : MH} {z : TM} {v : Value} {L : List Nat} (h : KB wb q z v L W) (hf : Fr [] W W') : KB wb q z v L W' := by
  obtain ⟨S, h1⟩ := h.b
  exact ⟨⟨S, h1.fr0 hf⟩, own_fr2 h.o hf (by simp)⟩
theorem KB.fr {w wb W : World} {q : MH} {z : TM} {v : Value} {L : List Nat} (h : KB wb q z v L W) (hf : Fr [] w wb) (hq : ∀ k ∈ q.blocks, w.heap.size ≤ k) : Fr [] w W := by
  obtain ⟨S, h1⟩ := h.b
  exact hf.step h1.f (fun k hk => .inr (hq k hk))
theorem KB.row {wb W : World} {q : MH} {z : TM} {v : Value} {L : List Nat} (h : KB wb q z v L W) : ∃ ad cap, v = .slice ad L.length cap ∧ RowV W wb.heap.size ad cap L := own_row h.o
theorem kb_take {wb W : World} {q : MH} {z : TM} {v : Value} {L : List Nat} (h : KB wb q z v L W) (c : Int) : Calls Tryz.prog 18 #[.pointer (some ⟨q.m, 0, none⟩), .int .i64 c] W fun e w' => ∃ x r : Nat, e = .returned (.tuple #[.int .i64 x, .int .i64 r]) ∧ ((r ≠ 0 ∧ KB wb q z v L w') ∨ (r = 0 ∧ (∃ S', B15 wb w' q z S' (L ++ [x])) ∧ w'.ownsRow wb.heap.size 3 1 v L.length (intC L))) := by
  obtain ⟨S, h1⟩ := h.b
  refine (b_take h1 c).mono fun e w' ⟨x, r, he, f, hc⟩ => ⟨x, r, he, ?_⟩
  have ho := own_fr2 h.o f (fun k hk => h1.lt k hk)
  rcases hc with ⟨h0, hb⟩ | ⟨h0, S', hb⟩
  · exact .inl ⟨h0, ⟨⟨S, hb⟩, ho⟩⟩
  · exact .inr ⟨h0, ⟨S', hb⟩, ho⟩
set_option maxRecDepth 100000 in
set_option maxHeartbeats 8000000 in
theorem walk_sback (w : World) (hM : TabM w) (hT : Tabs w) (a : Option Addr) (c : Nat) (l : List A15) (x : Int) (h : ActA15 w a c l) :
    Calls Tryz.prog 5 #[.slice a l.length c, .int .i64 x] w fun e w' => e = .returned (.bool true) ∧ Fr [] w w' := by
  have HL := Lib.hid (fun W (hf : Fr [] w W) => takes15 W (hM.fr hf (by simp)) (hT.fr hf (by simp)))
  by_cases hgd : 200 < l.length
  · have hL := HL.out w (Fr.refl _ _)
    have b1 : decide ((200 : Int) < l.length) = true := by simp; omega
    have b1' : decide (200 < l.length) = true := by simp; omega
    clear hgd h
    generalize l.length = n at *
    go_enter Tryz.func5, Tryz.ntmps5
    go_wp2_with fail
    with_reducible refine hL.mono ?_
    rintro e w1 ⟨rfl, f1⟩
    go_wp2_with fail
    go_ret
    exact ⟨rfl, f1⟩
  · have b1 : decide ((200 : Int) < l.length) = false := by simp; omega
    have b1' : decide (200 < l.length) = false := by simp; omega
    have HA := Lib.hid h
    have HG := Lib.hid (show 5 ≤ w.heap.size from by have := hM.size; have := hT.size; omega)
    generalize hnn : l.length = n at *
    have HN := Lib.hid hnn
    have hn200 : n ≤ 200 := by omega
    have hn := (show Calls Tryz.prog 15 #[.agg #[.int .i64 7, .int .i64 224]] w (NewH w 7 224) from hnew w hM hT 7 224 cfg7)
    clear h hnn hM hT hgd
    go_enter Tryz.func5, Tryz.ntmps5
    go_wp2_with fail
    with_reducible refine hn.mono ?_
    rintro e w1 ⟨q, rfl, h1, hq, f1⟩
    have HB := Lib.hid (m_begin (w0 := w) h1 cfg7 f1 hq)
    have HQ := Lib.hid hq
    clear hn h1 f1 hq
    go_wp2_with fail
    with_reducible refine HB.out.mono ?_
    rintro e w2 ⟨rfl, h2, _⟩
    obtain ⟨z, hz, hza, hzf, hzo, hzs⟩ := B15.start h2 HG.out
    have him := b_image hz hzo hzs
    have HIM := Lib.hid (fun wb W S (hb : B15 wb W q z S []) => b_image hb hzo hzs)
    have HFL := Lib.hid (fun wb W S L (hb : B15 wb W q z S L) => b_flt hb hzf)
    have HFR := Lib.hid (fun wb W S (hb : B15 wb W q z S []) => b_free hb)
    have F2 := Lib.hid h2.f
    have HZ := Lib.hid hz
    have hbt := (show ∀ b ∈ z.bytes, b < 256 from by
      obtain ⟨u, k1, k2, k3⟩ := hz.x
      have e : u.bytes = z.bytes := clean_bytes hzo k1.ok hzs k2 (fun _ _ => rfl) hz.none k3
      have := k1.m.m.ar.byte
      rw [← e]
      exact this)
    have hln : z.bytes.length ≤ 1048576 := by
      rw [TM.bytes_len]
      obtain ⟨a1, a2, a3, a4, a5⟩ := hzo.cfg
      unfold lsize lbase; omega
    have HCV := Lib.hid (show ∀ W g cw, RowB W g cw z.bytes → (convert 44 9 (.slice (some ⟨g, 0, none⟩) z.bytes.length cw)).run Tryz.prog W = .ok (.string (strOf z.bytes)) W from fun W g cw hr => conv_str W _ cw _ (hr.byt hbt (by omega)))
    have hqb : ∀ k ∈ q.blocks, k < w2.heap.size := hz.lt
    generalize strOf z.bytes = s at *
    generalize z.bytes = zb at *
    generalize hN : zb.length = N at *
    clear hz hzo hzs hbt h2 HB
    go_wp2_with fail
    with_reducible refine him.mono ?_
    rintro e w3 ⟨gw, cw, rfl, hgg, hrw, f3⟩
    have hgq : gw ∉ q.blocks := fun hm => by have := hqb _ hm; omega
    have RW := Lib.hid (And.intro hrw (And.intro hrw.lt hgq))
    have F3 := Lib.hid (F2.out.trans f3)
    have HK0 := Lib.hid (show KB w3 q z (.slice none 0 0) [] w3 from ⟨⟨_, (HZ.out.fr0 f3).re⟩, ⟨rfl, .inl ⟨rfl, rfl⟩⟩⟩)
    clear him hrw f3 hgg hgq hqb HZ F2
    go_wp2_with fail
    go_loopw [7, 8] (fun v i W => ∃ (j : Nat) (L : List Nat), j ≤ n ∧ i = .int .i64 j ∧ L.length ≤ j ∧ KB w3 q z v L W) (fun _ i _ => n - (intOf i).toNat)
    case atStart => exact ⟨0, [], by omega, rfl, by simp, HK0.out⟩
    case round =>
      clear HK0
      obtain ⟨j, L, hj, rfl, hL, hK⟩ := hrel
      have HK := Lib.hid hK
      clear hK
      by_cases hlt : j < n
      · obtain ⟨B, off, rfl, hBl, hr⟩ := HA.out.row (by rw [HN.out]; omega)
        have hlt' : j < l.length := by rw [HN.out]; exact hlt
        have hrj := hr j hlt'
        have fw := HK.out.fr F3.out HQ.out
        have e0 := (fw.cell (p := ⟨B, off + j * 2, none⟩) hBl (by simp)).trans hrj.c0
        have e1 := (fw.cell (p := ⟨B, off + j * 2 + 1, none⟩) hBl (by simp)).trans hrj.c1
        generalize l[j]'hlt' = y at *
        obtain ⟨yk, yn⟩ := y
        simp only at e0 e1
        have hg2 : (0 : Int) ≤ j := by omega
        have hg3 : (j : Int) < n := by omega
        have b6 : decide ((j : Int) < n) = true := by simp; omega
        have b6' : decide (j < n) = true := by simp; omega
        have wj : IntKind.i64.wrap ((j : Int) + 1) = (j : Int) + 1 := IntWalk.i64_in _ (by omega)
        clear hr hrj fw
        by_cases hk : yk < 3
        · have b5 : decide (yk < 3) = true := by simpa using hk
          have ht := kb_take HK.out yn
          clear hk
          go_wp2_with fail
          with_reducible refine ht.mono ?_
          rintro e w4 ⟨xx, r, rfl, hc⟩
          clear ht e0 e1
          rcases hc with ⟨h0, hk4⟩ | ⟨h0, hb4, ho4⟩
          · have b7 : ((r : Int) == 0) = false := by simp; exact h0
            have H4 := Lib.hid hk4
            clear hk4 h0
            go_wp2_with fail
            go_roundw
            case rel => exact ⟨j + 1, L, by omega, by go_num, by omega, H4.out⟩
            case measure => simp [intOf]; omega
          · subst h0
            have HO := Lib.hid ho4
            have HB4 := Lib.hid hb4
            have hw3 : w3.heap.size ≤ w4.heap.size := by
              obtain ⟨S', hb⟩ := hb4
              exact hb.f.size
            clear ho4 hb4
            go_wp2_with (at_builtin; go_must (refine wpList_append2 rfl _ _ rfl rfl w3.heap.size _ L rfl xx w4 rfl HO.out rfl (by omega) hw3 ?_; intro g1 cap1 W1 hO1 hF1 hob1))
            obtain ⟨S5, hb5⟩ := HB4.out
            have hb6 := hb5.own hF1 (fun g e => (HO.out.lt g e).1)
            have hs6 := hb6.f.size
            have hbW := b_write (hb6.fr0 ((Fr.refl [] W1).alloc (.cells (bytes smt) 5 (9, 10)))) xx W1.heap.size 9 smt (by simp) (byt_mk W1 smt (by decide) (by decide) (9, 10)) hs6 (by decide) 9 rfl
            rw [show bytes smt = #[.int .u8 115, .int .u8 111, .int .u8 109, .int .u8 101, .int .u8 116, .int .u8 104, .int .u8 105, .int .u8 110, .int .u8 103] from rfl] at hbW
            have HO1 := Lib.hid (show (W1.alloc (.cells #[.int .u8 115, .int .u8 111, .int .u8 109, .int .u8 101, .int .u8 116, .int .u8 104, .int .u8 105, .int .u8 110, .int .u8 103] 5 (9, 10))).ownsRow w3.heap.size 3 1 (.slice (some ⟨g1, 0, none⟩) (L.length + 1) cap1) (L ++ [xx]).length (intC (L ++ [xx])) from hO1.alloc _)
            have HLT := Lib.hid hb6.lt
            have kc : (convert 44 44 (.slice (some ⟨W1.heap.size, 0, none⟩) 9 9)).run Tryz.prog (W1.alloc (.cells #[.int .u8 115, .int .u8 111, .int .u8 109, .int .u8 101, .int .u8 116, .int .u8 104, .int .u8 105, .int .u8 110, .int .u8 103] 5)) = .ok (.slice (some ⟨W1.heap.size, 0, none⟩) 9 9) (W1.alloc (.cells #[.int .u8 115, .int .u8 111, .int .u8 109, .int .u8 101, .int .u8 116, .int .u8 104, .int .u8 105, .int .u8 110, .int .u8 103] 5 (9, 10))) := Lib.run_convert_bytes_const (P := Tryz.prog) W1 44 5 _ 9 9 Tryz.underlying44 Tryz.underlying5
            clear hO1 hF1 hob1 hb6 hb5 HB4 hs6 hw3 HO
            go_wp2_with fail
            rw [kc]
            go_wp2_with fail
            with_reducible refine hbW.mono ?_
            rintro e w6 ⟨rfl, h6, f6⟩
            have H6 := Lib.hid (show KB w3 q z (.slice (some ⟨g1, 0, none⟩) (L.length + 1) cap1) (L ++ [xx]) w6 from ⟨⟨_, h6⟩, own_fr2 HO1.out f6 (fun k hk => HLT.out k hk)⟩)
            clear h6 f6 hbW HO1 HLT
            go_wp2_with fail
            go_roundw
            case rel => exact ⟨j + 1, L ++ [xx], by omega, by go_num, by simp; omega, H6.out⟩
            case measure => simp [intOf]; omega
        · have b5 : decide (yk < 3) = false := by simpa using hk
          clear hk
          go_wp2_with fail
          go_roundw
          case rel => exact ⟨j + 1, L, by omega, by go_num, by omega, HK.out⟩
          case measure => simp [intOf]; omega
      · have b4 : decide ((j : Int) < n) = false := by simp; omega
        have b4' : decide (j < n) = false := by simp; omega
        have hL2 : L.length ≤ 200 := by omega
        clear hlt HA hL
        go_wp2_with fail
        go_loopw [7] (fun v W => ∃ L : List Nat, L.length ≤ 200 ∧ KB w3 q z v L W) (fun v _ => vlen v)
        case atStart => exact ⟨L, hL2, HK.out⟩
        case round =>
          clear HK hL2 hj b4 b4'
          obtain ⟨M, hM2, hK⟩ := hrel
          have HK := Lib.hid hK
          obtain ⟨ad, cap, rfl, hrow⟩ := hK.row
          clear hK
          by_cases h0 : 0 < M.length
          · obtain ⟨g, rfl, hgb, hr⟩ := hrow h0
            have HR := Lib.hid hr
            have hk := nthZ_lt x M.length h0
            obtain ⟨t1, t2⟩ := tmod_in x M.length h0 (by omega)
            have t3 := nthZ_max x M.length
            generalize nthZ x M.length = k at *
            generalize hR : x.tmod M.length = R at *
            obtain ⟨S, hb⟩ := HK.out.b
            have hgv := b_give hb k hk
            have c1 := hr.cell k hk
            generalize M[k] = y at *
            have HB := Lib.hid hb
            generalize hMl : M.length = m at *
            have b1 : decide ((0 : Int) < m) = true := by simp; omega
            have b1' : decide (0 < m) = true := by simp; omega
            have b2 : ((m : Int) == 0) = false := by simp; omega
            have b2' : (m == 0) = false := by simp; omega
            clear hr hb hrow
            go_wp2_with fail
            with_reducible refine hgv.mono ?_
            rintro e w7 ⟨rfl, f7, S7, h7⟩
            have hO7 := own_fr2 HK.out.o f7 (fun k hk => HB.out.lt k hk)
            have hR7 : RowI w7 g cap M := HR.out.fr f7 (fun hm => by have := HB.out.lt g hm; omega)
            obtain ⟨v1, w8, v2, w9, E1, E2, O9, f9⟩ := cut_run hR7 (k := k) (by omega) (by omega)
            rw [hMl] at E2
            have HE1 := Lib.hid E1
            have HE2 := Lib.hid E2
            have HO9 := Lib.hid O9
            have HK9 := Lib.hid (show KB w3 q z v2 (cutL M k) w9 from ⟨⟨S7, h7.fr0 f9⟩, ownsRow_le9 O9 h7.f.size⟩)
            have hcl := cut_len (L := M) (k := k) (by omega)
            have g1 : (0 : Int) ≤ k := by omega
            have g2 : (k : Int) ≤ cap := by have := hR7.le; omega
            have g2' : k ≤ cap := by have := hR7.le; omega
            have g3 : (k : Int) + 1 ≤ m := by omega
            have g3' : k + 1 ≤ m := by omega
            have g4 : (m : Int) ≤ cap := by have := hR7.le; omega
            have g4' : m ≤ cap := by have := hR7.le; omega
            have g5 : IntKind.i64.wrap ((k : Int) + 1) = (k : Int) + 1 := IntWalk.i64_in _ (by omega)
            have g6 : (0 : Int) ≤ (k : Int) + 1 := by omega
            have g7 : (k : Int) < m := by omega
            have g8 : ((k : Int) + 1).toNat = k + 1 := by omega
            clear E1 E2 O9 hO7 hR7 f7 h7 f9 hgv c1 HR
            generalize hc2 : (if cap - (k + 1) = 0 then (some ⟨g, 0, none⟩ : Option Addr) else some ⟨g, k + 1, none⟩) = ad2 at *
            have hc3 : (if cap = k + 1 then (some ⟨g, 0, none⟩ : Option Addr) else some ⟨g, k + 1, none⟩) = ad2 := by
              rw [← hc2]
              by_cases e : cap = k + 1
              · rw [if_pos e, if_pos (by omega)]
              · rw [if_neg e, if_neg (by omega)]
            go_wp2_with fail
            apply cutG
            · intro key
              go_region_law (first | (refine step_app rfl (.tmp 73) (.tmp 76) 42 rfl rfl _ _ _ _ (by simp [Act.eval, Act.put]) (by simp [Act.eval, Act.put]) HE1.out ?_) | (refine step_app rfl (.tmp 77) (.tmp 81) 42 rfl rfl _ _ _ _ (by simp [Act.eval, Act.put]) (by simp [Act.eval, Act.put, hc3]) HE2.out ?_))
              all_goals exact key
            · clear hc3 HE1 HE2 hc2
              obtain ⟨ad3, cap3, rfl, _⟩ := own_row HO9.out
              simp only [Act.put, List.getElem_toArray, List.getElem_cons_zero, List.getElem_cons_succ, List.setIfInBounds_toArray, List.set_cons_zero, List.set_cons_succ]
              go_wp2_with fail
              go_roundw
              case rel => exact ⟨cutL M k, by omega, HK9.out⟩
              case measure => simp [vlen]; omega
          · have hM0 : M = [] := List.eq_nil_of_length_eq_zero (by omega)
            subst hM0
            obtain ⟨S, hb⟩ := HK.out.b
            have HB := Lib.hid hb
            have HRW := Lib.hid (fun W S (hb : B15 w3 W q z S []) => (show RowB W gw cw zb from RW.out.1.fr hb.f RW.out.2.2))
            have HFW := Lib.hid (fun W S (hb : B15 w3 W q z S []) => (show Fr [] w W from F3.out.step hb.f (fun k hk => .inr (HQ.out k hk))))
            have b1 : decide ((0 : Int) < 0) = false := rfl
            have b3 : ((z.a : Int) == 7) = true := by rw [hza]; rfl
            clear hb hrow h0 RW HK
            simp only [List.length_nil]
            go_wp2_with fail
            have hY := HCV.out _ _ _ (HRW.out _ _ HB.out).drew
            refine wp_region_held_drew (S := fun W => (convert 44 9 (.slice (some ⟨gw, 0, none⟩) N cw)).run Tryz.prog W = .ok (.string s) W) (by kernel_rfl) (hY) (fun hHeld => ?_)
            refine wpAnyH_take (i := 0) (oi := ?ooa0) (v := ?vva0) ?hia0 (by kernel_rfl) (by kernel_rfl) (by kernel_rfl) ?hqa0 (Or.inl ⟨?hwa0, ?hha0⟩) hHeld ?rra0
            case hia0 => (simp only [List.getElem?_toArray, List.getElem?_cons_zero, List.getElem?_cons_succ]; rfl)
            case hqa0 => exact fun _ _ _ h => h
            case hwa0 => rfl
            case hha0 => (intro w hSw; (try dsimp only at hSw); go_simp; try with_reducible rfl)
            try simp only [Act.put, List.setIfInBounds_toArray, List.set_cons_zero, List.set_cons_succ]
            refine wpAnyH_ready (rs := [1]) (by kernel_rfl) (by simp) ?_
            refine AllReadyH.cons (o := ?ooa1) ?hia1 (fun K hK => ?hca1) AllReadyH.nil
            case hia1 => (simp only [List.getElem?_toArray, List.getElem?_cons_zero, List.getElem?_cons_succ]; rfl)
            go_simp
            with_reducible refine (HFR.out _ _ _ (HB.out.fr0 ((Fr.refl [] wr).drew))).mono ?_
            rintro e W1 ⟨rfl, hb1, f1⟩
            have HB1 := Lib.hid hb1
            have hY := HCV.out _ _ _ (HRW.out _ _ hb1)
            clear hb1 f1
            go_wp2_with fail
            refine hK.out _ _ (hY) (fun hHeld => ?_)
            clear hK K
            try simp only [Act.put, List.setIfInBounds_toArray, List.set_cons_zero, List.set_cons_succ]
            refine wpAnyH_take (i := 2) (oi := ?ooa2) (v := ?vva2) ?hia2 (by kernel_rfl) (by kernel_rfl) (by kernel_rfl) ?hqa2 (Or.inl ⟨?hwa2, ?hha2⟩) hHeld ?rra2
            case hia2 => (simp only [List.getElem?_toArray, List.getElem?_cons_zero, List.getElem?_cons_succ]; rfl)
            case hqa2 => exact fun _ _ _ h => h
            case hwa2 => rfl
            case hha2 => (intro w hSw; (try dsimp only at hSw); go_simp; try with_reducible rfl)
            try simp only [Act.put, List.setIfInBounds_toArray, List.set_cons_zero, List.set_cons_succ]
            refine wpAnyH_take (i := 3) (oi := ?ooa3) (v := ?vva3) ?hia3 (by kernel_rfl) (by kernel_rfl) (by kernel_rfl) ?hqa3 (Or.inl ⟨?hwa3, ?hha3⟩) hHeld ?rra3
            case hia3 => (simp only [List.getElem?_toArray, List.getElem?_cons_zero, List.getElem?_cons_succ]; rfl)
            case hqa3 => exact fun _ _ _ h => h
            case hwa3 => rfl
            case hha3 => (intro w hSw; (try dsimp only at hSw); go_simp; try with_reducible rfl)
            try simp only [Act.put, List.setIfInBounds_toArray, List.set_cons_zero, List.set_cons_succ]
            refine wpAnyH_take (i := 4) (oi := ?ooa4) (v := ?vva4) ?hia4 (by kernel_rfl) (by kernel_rfl) (by kernel_rfl) ?hqa4 (Or.inl ⟨?hwa4, ?hha4⟩) hHeld ?rra4
            case hia4 => (simp only [List.getElem?_toArray, List.getElem?_cons_zero, List.getElem?_cons_succ]; rfl)
            case hqa4 => exact fun _ _ _ h => h
            case hwa4 => rfl
            case hha4 => (intro w hSw; (try dsimp only at hSw); go_simp; try with_reducible rfl)
            try simp only [Act.put, List.setIfInBounds_toArray, List.set_cons_zero, List.set_cons_succ]
            refine wpAnyH_take (i := 7) (oi := ?ooa5) (v := ?vva5) ?hia5 (by kernel_rfl) (by kernel_rfl) (by kernel_rfl) ?hqa5 (Or.inl ⟨?hwa5, ?hha5⟩) hHeld ?rra5
            case hia5 => (simp only [List.getElem?_toArray, List.getElem?_cons_zero, List.getElem?_cons_succ]; rfl)
            case hqa5 => exact fun _ _ _ h => h
            case hwa5 => rfl
            case hha5 => (intro w hSw; (try dsimp only at hSw); go_simp; try with_reducible rfl)
            try simp only [Act.put, List.setIfInBounds_toArray, List.set_cons_zero, List.set_cons_succ]
            refine wpAnyH_take (i := 8) (oi := ?ooa6) (v := ?vva6) ?hia6 (by kernel_rfl) (by kernel_rfl) (by kernel_rfl) ?hqa6 (Or.inl ⟨?hwa6, ?hha6⟩) hHeld ?rra6
            case hia6 => (simp only [List.getElem?_toArray, List.getElem?_cons_zero, List.getElem?_cons_succ]; rfl)
            case hqa6 => exact fun _ _ _ h => h
            case hwa6 => rfl
            case hha6 => (intro w hSw; (try dsimp only at hSw); go_simp; try with_reducible rfl)
            try simp only [Act.put, List.setIfInBounds_toArray, List.set_cons_zero, List.set_cons_succ]
            refine wpAnyH_ready (rs := [5]) (by kernel_rfl) (by simp) ?_
            refine AllReadyH.cons (o := ?ooa7) ?hia7 (fun K hK => ?hca7) AllReadyH.nil
            case hia7 => (simp only [List.getElem?_toArray, List.getElem?_cons_zero, List.getElem?_cons_succ]; rfl)
            go_simp
            with_reducible refine (HIM.out _ _ _ HB1.out).mono ?_
            rintro e W2 ⟨g2, c2, rfl, hgg2, hr2, f2⟩
            have HB2 := Lib.hid (HB1.out.fr0 f2)
            have hs2 := HCV.out _ _ _ hr2
            have hY := HCV.out _ _ _ (HRW.out _ _ HB2.out)
            clear hr2 f2 hgg2
            go_wp2_with fail
            refine hK.out _ _ (hY) (fun hHeld => ?_)
            clear hK K
            try simp only [Act.put, List.setIfInBounds_toArray, List.set_cons_zero, List.set_cons_succ]
            refine wpAnyH_ready (rs := [6]) (by kernel_rfl) (by simp) ?_
            refine AllReadyH.cons (o := ?ooa8) ?hia8 (fun K hK => ?hca8) AllReadyH.nil
            case hia8 => (simp only [List.getElem?_toArray, List.getElem?_cons_zero, List.getElem?_cons_succ]; rfl)
            go_simp
            refine hK.out _ _ (hY) (fun hHeld => ?_)
            clear hK K
            try simp only [Act.put, List.setIfInBounds_toArray, List.set_cons_zero, List.set_cons_succ]
            refine wpAnyH_take (i := 9) (oi := ?ooa9) (v := ?vva9) ?hia9 (by kernel_rfl) (by kernel_rfl) (by kernel_rfl) ?hqa9 (Or.inl ⟨?hwa9, ?hha9⟩) hHeld ?rra9
            case hia9 => (simp only [List.getElem?_toArray, List.getElem?_cons_zero, List.getElem?_cons_succ]; rfl)
            case hqa9 => exact fun _ _ _ h => h
            case hwa9 => rfl
            case hha9 => (intro w hSw; (try dsimp only at hSw); go_simp; try with_reducible rfl)
            try simp only [Act.put, List.setIfInBounds_toArray, List.set_cons_zero, List.set_cons_succ]
            refine wpAnyH_take (i := 10) (oi := ?ooa10) (v := ?vva10) ?hia10 (by kernel_rfl) (by kernel_rfl) (by kernel_rfl) ?hqa10 (Or.inl ⟨?hwa10, ?hha10⟩) hHeld ?rra10
            case hia10 => (simp only [List.getElem?_toArray, List.getElem?_cons_zero, List.getElem?_cons_succ]; rfl)
            case hqa10 => exact fun _ _ _ h => h
            case hwa10 => rfl
            case hha10 => (intro w hSw; (try dsimp only at hSw); go_simp; try with_reducible rfl)
            try simp only [Act.put, List.setIfInBounds_toArray, List.set_cons_zero, List.set_cons_succ]
            refine wpAnyH_take (i := 11) (oi := ?ooa11) (v := ?vva11) ?hia11 (by kernel_rfl) (by kernel_rfl) (by kernel_rfl) ?hqa11 (Or.inl ⟨?hwa11, ?hha11⟩) hHeld ?rra11
            case hia11 => (simp only [List.getElem?_toArray, List.getElem?_cons_zero, List.getElem?_cons_succ]; rfl)
            case hqa11 => exact fun _ _ _ h => h
            case hwa11 => rfl
            case hha11 => (intro w hSw; (try dsimp only at hSw); go_simp; try with_reducible rfl)
            try simp only [Act.put, List.setIfInBounds_toArray, List.set_cons_zero, List.set_cons_succ]
            refine wpAnyH_take (i := 12) (oi := ?ooa12) (v := ?vva12) ?hia12 (by kernel_rfl) (by kernel_rfl) (by kernel_rfl) ?hqa12 (Or.inl ⟨?hwa12, ?hha12⟩) hHeld ?rra12
            case hia12 => (simp only [List.getElem?_toArray, List.getElem?_cons_zero, List.getElem?_cons_succ]; rfl)
            case hqa12 => exact fun _ _ _ h => h
            case hwa12 => rfl
            case hha12 => (intro w hSw; (try dsimp only at hSw); go_simp; try with_reducible rfl)
            try simp only [Act.put, List.setIfInBounds_toArray, List.set_cons_zero, List.set_cons_succ]
            refine wpAnyH_ready (rs := [13]) (by kernel_rfl) (by simp) ?_
            refine AllReadyH.cons (o := ?ooa13) ?hia13 (fun K hK => ?hca13) AllReadyH.nil
            case hia13 => (simp only [List.getElem?_toArray, List.getElem?_cons_zero, List.getElem?_cons_succ]; rfl)
            go_simp
            with_reducible refine (HFL.out _ _ _ _ HB2.out).mono ?_
            rintro e W3 ⟨rfl, f3⟩
            have HB3 := Lib.hid (HB2.out.fr0 f3)
            have hY := HCV.out _ _ _ (HRW.out _ _ HB3.out)
            have hL := HL.out _ (HFW.out _ _ HB3.out)
            clear f3
            go_wp2_with fail
            refine hK.out _ _ (hY) (fun hHeld => ?_)
            clear hK K
            try simp only [Act.put, List.setIfInBounds_toArray, List.set_cons_zero, List.set_cons_succ]
            refine wpAnyH_take (i := 14) (oi := ?ooa14) (v := ?vva14) ?hia14 (by kernel_rfl) (by kernel_rfl) (by kernel_rfl) ?hqa14 (Or.inl ⟨?hwa14, ?hha14⟩) hHeld ?rra14
            case hia14 => (simp only [List.getElem?_toArray, List.getElem?_cons_zero, List.getElem?_cons_succ]; rfl)
            case hqa14 => exact fun _ _ _ h => h
            case hwa14 => rfl
            case hha14 => (intro w hSw; (try dsimp only at hSw); go_simp; try with_reducible rfl)
            try simp only [Act.put, List.setIfInBounds_toArray, List.set_cons_zero, List.set_cons_succ]
            refine wpAnyH_take (i := 15) (oi := ?ooa15) (v := ?vva15) ?hia15 (by kernel_rfl) (by kernel_rfl) (by kernel_rfl) ?hqa15 (Or.inl ⟨?hwa15, ?hha15⟩) hHeld ?rra15
            case hia15 => (simp only [List.getElem?_toArray, List.getElem?_cons_zero, List.getElem?_cons_succ]; rfl)
            case hqa15 => exact fun _ _ _ h => h
            case hwa15 => rfl
            case hha15 => (intro w hSw; (try dsimp only at hSw); go_simp; try with_reducible rfl)
            try simp only [Act.put, List.setIfInBounds_toArray, List.set_cons_zero, List.set_cons_succ]
            refine wpAnyH_take (i := 16) (oi := ?ooa16) (v := ?vva16) ?hia16 (by kernel_rfl) (by kernel_rfl) (by kernel_rfl) ?hqa16 (Or.inl ⟨?hwa16, ?hha16⟩) hHeld ?rra16
            case hia16 => (simp only [List.getElem?_toArray, List.getElem?_cons_zero, List.getElem?_cons_succ]; rfl)
            case hqa16 => exact fun _ _ _ h => h
            case hwa16 => rfl
            case hha16 => (intro w hSw; (try dsimp only at hSw); go_simp; try with_reducible rfl)
            try simp only [Act.put, List.setIfInBounds_toArray, List.set_cons_zero, List.set_cons_succ]
            refine wpAnyH_ready (rs := [17]) (by kernel_rfl) (by simp) ?_
            refine AllReadyH.cons (o := ?ooa17) ?hia17 (fun K hK => ?hca17) AllReadyH.nil
            case hia17 => (simp only [List.getElem?_toArray, List.getElem?_cons_zero, List.getElem?_cons_succ]; rfl)
            go_simp
            with_reducible refine hL.mono ?_
            rintro e W4 ⟨rfl, f4⟩
            have HB4 := Lib.hid (HB3.out.fr0 f4)
            have hY := HCV.out _ _ _ (HRW.out _ _ HB4.out)
            clear f4
            go_wp2_with fail
            refine hK.out _ _ (hY) (fun hHeld => ?_)
            clear hK K
            try simp only [Act.put, List.setIfInBounds_toArray, List.set_cons_zero, List.set_cons_succ]
            refine wpAnyH_take (i := 18) (oi := ?ooa18) (v := ?vva18) ?hia18 (by kernel_rfl) (by kernel_rfl) (by kernel_rfl) ?hqa18 (Or.inl ⟨?hwa18, ?hha18⟩) hHeld ?rra18
            case hia18 => (simp only [List.getElem?_toArray, List.getElem?_cons_zero, List.getElem?_cons_succ]; rfl)
            case hqa18 => exact fun _ _ _ h => h
            case hwa18 => rfl
            case hha18 => (intro w hSw; (try dsimp only at hSw); go_simp; try with_reducible rfl)
            try simp only [Act.put, List.setIfInBounds_toArray, List.set_cons_zero, List.set_cons_succ]
            refine wpAnyH_take (i := 19) (oi := ?ooa19) (v := ?vva19) ?hia19 (by kernel_rfl) (by kernel_rfl) (by kernel_rfl) ?hqa19 (Or.inl ⟨?hwa19, ?hha19⟩) hHeld ?rra19
            case hia19 => (simp only [List.getElem?_toArray, List.getElem?_cons_zero, List.getElem?_cons_succ]; rfl)
            case hqa19 => exact fun _ _ _ h => h
            case hwa19 => rfl
            case hha19 => (intro w hSw; (try dsimp only at hSw); go_simp; try with_reducible rfl)
            try simp only [Act.put, List.setIfInBounds_toArray, List.set_cons_zero, List.set_cons_succ]
            refine wpAnyH_done (by kernel_rfl) ?_ _
            go_wp2_with fail
            go_ret
            exact ⟨rfl, HFW.out _ _ HB4.out⟩
theorem walk_sbackW (w : World) (h : TabM w ∧ Tabs w) (a : Option Addr) (c : Nat) (l : List A15) (hl : ActA15 w a c l) (x : Int) : Calls Tryz.prog 5 #[.slice a l.length c, .int .i64 x] w fun e w' => e = .returned (.bool true) ∧ Fr [] w w' := walk_sback w h.1 h.2 a c l x hl
end Go.Proofs.YtkapkbiccppldaaGreatDoor
