/- Several texts in one. -/
import Derived.Test.YtgoogihfggndpaaGreatDoorRows
import Derived.Test.YtgoogihfggndpaaGreatDoorGA
import Derived.WalkKit
import Derived.ProofKit
import Derived.OpenShut
import Derived.ShutString
import Derived.ChangeOld
import Derived.Below
import Derived.Test.YtgoogihfggndpaaGreatDoorLB
import Derived.Test.YtgoogihfggndpaaGreatDoorGD
import Derived.Test.YtgoogihfggndpaaGreatDoorGI
import Derived.Deep.RegionHeld3
import Derived.Test.YtgoogihfggndpaaGreatDoorGQ
/- Opening the acts of layer 16's statements. -/
namespace Go.Proofs.YtgoogihfggndpaaGreatDoor
open Go.ChangeShapes Go.WideShapes Go.ChangeAt Go.RowKit
set_option linter.unusedVariables false
set_option linter.unusedSimpArgs false

/-- An act. -/
structure A16 where
  k : Int
  n : Int
def A16.cells (d : A16) : Array Value := #[.int .i64 d.k, .int .i64 d.n]
structure A16.Ok (d : A16) : Prop where
  k : -9223372036854775808 ≤ d.k ∧ d.k ≤ 9223372036854775807
  n : -9223372036854775808 ≤ d.n ∧ d.n ≤ 9223372036854775807
/-- An act that lies from a place on. -/
structure Row16 (w : World) (b o : Nat) (d : A16) : Prop where
  c0 : w.cell? ⟨b, o, none⟩ = some (.int .i64 d.k)
  c1 : w.cell? ⟨b, o + 1, none⟩ = some (.int .i64 d.n)
structure ActA16 (w : World) (a : Option Addr) (c : Nat) (l : List A16) : Prop where
  row : 0 < l.length → ∃ b off, a = some ⟨b, off, none⟩ ∧ b < w.heap.size ∧ ∀ i (h : i < l.length), Row16 w b (off + i * 2) l[i]
  each : ∀ d ∈ l, d.Ok
  len : l.length ≤ 9223372036854775807
theorem ActA16.fr {w w' : World} {a : Option Addr} {c : Nat} {l : List A16} {S : List Nat} (h : ActA16 w a c l) (hf : Fr S w w') (hS : ∀ k ∈ S, w.heap.size ≤ k) : ActA16 w' a c l := by
  refine ⟨fun h0 => ?_, h.each, h.len⟩
  obtain ⟨b, off, ha, hb, hr⟩ := h.row h0
  have hn : b ∉ S := fun hm => by have := hS b hm; omega
  refine ⟨b, off, ha, Nat.lt_of_lt_of_le hb hf.size, fun i hi => ?_⟩
  have r := hr i hi
  exact ⟨(hf.cell (p := ⟨b, off + i * 2, none⟩) hb hn).trans r.c0, (hf.cell (p := ⟨b, off + i * 2 + 1, none⟩) hb hn).trans r.c1⟩
set_option maxRecDepth 100000 in
theorem open_acts16 {H : Type} {enc : TypeId × Value → H} {w : World} {base b0 : Nat} {spare : Nat → Bool} {held : Bool} {r : Reach} {v : Value} {d : DataW H} {p : List MemPlace}
    (hv : Value.okWide Tryz.prog w r b0 44 v) (h : DataW.Trod enc Tryz.prog w base spare held 44 v d p) : ∃ a c l, v = .slice a l.length c ∧ ActA16 w a c l := by
  obtain ⟨a0, len, cap, rfl⟩ := okWide_slice Tryz.underlying44 hv
  obtain ⟨fuel, hf⟩ := h
  rcases open_slice_fields Tryz.underlying44 Tryz.underlying48 (by kernel_rfl) (by kernel_rfl) hf with hcs | ⟨ad, len', cap', hcs, hl, hm, hi⟩
  · simp [Value.cells] at hcs
    obtain ⟨rfl, rfl, rfl⟩ := hcs
    exact ⟨none, 0, [], rfl, fun h => by simp at h, fun d hd => by simp at hd, by simp⟩
  · simp [Value.cells] at hcs
    obtain ⟨rfl, rfl, rfl⟩ := hcs
    by_cases h0 : len = 0
    · subst h0
      exact ⟨_, _, [], rfl, fun h => by simp at h, fun d hd => by simp at hd, by simp⟩
    obtain ⟨b, off, spot⟩ := ad
    have hspot : spot = none := by
      obtain ⟨n, hf⟩ := hi 0 (by omega)
      obtain ⟨v0, y0, c0, t0⟩ := hf 0 _ rfl
      simpa [Addr.add] using World.cell?_spot c0
    subst hspot
    have hadd : ∀ n, (⟨b, off, none⟩ : Addr).add n = ⟨b, off + n, none⟩ := fun n => by unfold Addr.add; split <;> simp_all
    have hval : ∀ i, i < len → ∃ q : A16, Row16 w b (off + i * 2) q ∧ q.Ok := by
      intro i him
      obtain ⟨n, hf⟩ := hi i him
      obtain ⟨v0, y0, c0, t0⟩ := hf 0 _ rfl
      obtain ⟨v1, y1, c1, t1⟩ := hf 1 _ rfl
      obtain ⟨q0, g0, _, w0⟩ := DataW.trod_int Tryz.underlying3 t0
      obtain ⟨q1, g1, _, w1⟩ := DataW.trod_int Tryz.underlying3 t1
      simp at g0 g1
      subst g0 g1
      have z0 := lit_i64 w0
      have z1 := lit_i64 w1
      rw [hadd] at c0 c1
      exact ⟨⟨q0, q1⟩, ⟨c0, c1⟩, ⟨z0, z1⟩⟩
    obtain ⟨l, hl2, hp⟩ := list_of _ len hval
    refine ⟨_, _, l, by rw [hl2], fun _ => ⟨b, off, rfl, ?_, fun i h => (hp i h).1⟩, fun d hd => ?_, by rw [hl2]; unfold maxLen at hm; omega⟩
    · obtain ⟨q, hq, _⟩ := hval 0 (by omega)
      exact cell_lt hq.c0
    · obtain ⟨j, hj, rfl⟩ := List.mem_iff_getElem.1 hd
      exact (hp j hj).2
end Go.Proofs.YtgoogihfggndpaaGreatDoor

/- Layer 16: a memory behind acts. -/
namespace Go.Proofs.YtgoogihfggndpaaGreatDoor
set_option linter.unusedVariables false
set_option linter.unusedSimpArgs false
open Go.RowKit

/-- A memory behind acts, since wb (its own blocks are elder). -/
structure P16 (w0 wb : World) (q : MH) (S : SS) (W : World) : Prop where
  x : ∃ u, IsH W q u ∧ SlI u S ∧ u.a = 7 ∧ u.s = 226 ∧ u.ft = 0 ∧ ∀ f, f < 3 → u.rt f = (newT 7 226).rt f
  g : Fr [] w0 W
  hq : ∀ k ∈ q.blocks, w0.heap.size ≤ k
  fu : S.full 7
  lt : ∀ k ∈ q.blocks, k < wb.heap.size
  f : Fr q.blocks wb W
section
variable {w0 wb W W' : World} {q : MH} {S : SS}
theorem P16.m (h : P16 w0 wb q S W) : M15 w0 q 7 226 S W := by
  obtain ⟨u, h1, h2, h3, h4, h5, _⟩ := h.x
  exact ⟨⟨u, h1, h2, h3, h4, h5⟩, h.g, h.hq⟩
theorem P16.mk' (h : P16 w0 wb q S W) {u : TM} {S' : SS} (h1 : IsH W' q u) (h2 : SlI u S') (h3 : u.a = 7) (h4 : u.s = 226) (h5 : u.ft = 0) (h6 : ∀ f, f < 3 → u.rt f = (newT 7 226).rt f) (hf : Fr q.blocks W W') (hF : S'.full 7) : P16 w0 wb q S' W' :=
  ⟨⟨u, h1, h2, h3, h4, h5, h6⟩, h.g.step hf (fun k hk => .inr (h.hq k hk)), h.hq, hF, h.lt, h.f.trans hf⟩
theorem P16.fr0 (h : P16 w0 wb q S W) (hf : Fr [] W W') : P16 w0 wb q S W' := by
  obtain ⟨u, h1, h2, h3, h4, h5, h6⟩ := h.x
  exact ⟨⟨u, h1.fr0 hf, h2, h3, h4, h5, h6⟩, h.g.trans hf, h.hq, h.fu, h.lt, h.f.trans hf.nil⟩
theorem P16.frO (h : P16 w0 wb q S W) {B : List Nat} (hf : Fr B W W') (hB : ∀ k ∈ B, wb.heap.size ≤ k) : P16 w0 wb q S W' := by
  obtain ⟨u, h1, h2, h3, h4, h5, h6⟩ := h.x
  have hw := h.f.size
  have hw0 : w0.heap.size ≤ wb.heap.size ∨ True := .inr trivial
  have hd : ∀ k ∈ q.blocks, k ∉ B := fun k hk hm => by have := h.lt k hk; have := hB k hm; omega
  have hg : ∀ k ∈ B, 6 ≤ k := fun k hk => by
    have a1 := h1.hi q.m (by simp [MH.blocks])
    have a2 := h.lt q.m (by simp [MH.blocks])
    have a3 := hB k hk
    omega
  have hwm : ∀ k ∈ B, w0.heap.size ≤ k := fun k hk => by
    have a1 := h.hq q.m (by simp [MH.blocks])
    have a2 := h.lt q.m (by simp [MH.blocks])
    have a3 := hB k hk
    omega
  have hg2 : ∀ k ∈ B, 2 ≤ k := fun k hk => by have := hg k hk; omega
  refine ⟨⟨u, ⟨h1.m.fr hf hd (fun k hk hm => by have := hg2 k hm; omega), h1.tabs.fr hf hg, h1.hi⟩, h2, h3, h4, h5, h6⟩, h.g.step hf (fun k hk => .inr (hwm k hk)), h.hq, h.fu, h.lt, h.f.step hf (fun k hk => .inr (hB k hk))⟩
theorem p_begin {a s : Nat} (h : IsH W q (newT a s)) (hc : Cfg a s) : Calls Tryz.prog 40 #[.pointer (some ⟨q.m, 0, none⟩)] W fun e w' => e = .returned (.int .i64 0) ∧ ∃ u, IsH w' q u ∧ SlI u SS.zero ∧ Lis (newT a s).zHd u ∧ Fr q.blocks W w' := by
  have hb := libegin h.m
  have HM := Lib.hid (fun w' (hm : IsT w' q ((newT a s).beg (newT a s).a)) (hf' : Fr q.blocks W w') => (show ∃ u, IsH w' q u ∧ SlI u SS.zero ∧ Lis (newT a s).zHd u ∧ Fr q.blocks W w' from by
    obtain ⟨h1, h2⟩ := begun a s hc _ hm.ok rfl
    exact ⟨_, h.step hm hf', h1, h2, hf'⟩))
  clear h
  go_enter Tryz.func40, Tryz.ntmps40
  go_wp2_with fail
  with_reducible refine hb.mono ?_
  rintro e w1 ⟨rfl, h1, f1⟩
  have H1 := Lib.hid (HM.out _ h1 f1)
  clear h1 f1 HM
  go_wp2_with fail
  go_ret
  exact ⟨rfl, H1.out⟩
theorem p_take (h : P16 w0 wb q S W) (c : Int) : Calls Tryz.prog 19 #[.pointer (some ⟨q.m, 0, none⟩), .int .i64 c] W fun e w' => ∃ (x r : Nat) (S' : SS), e = .returned (.tuple #[.int .i64 x, .int .i64 r]) ∧ Fr q.blocks W w' ∧ P16 w0 wb q S' w' ∧ (r = 0 → ∃ n, Lv 7 S' x n) := by
  obtain ⟨u, h1, h2, h3, h4, h5, h6⟩ := h.x
  have := stake h1 h2 c
  have hL : (takeS u.a (lbase u.a u.s) S c).2.1 = 0 → ∃ n, Lv 7 (takeS u.a (lbase u.a u.s) S c).2.2 (takeS u.a (lbase u.a u.s) S c).1 n := fun h0 => by
    have := (take_plain h2 h1.ok c h0).2.2.new
    rw [h3] at this ⊢
    exact ⟨_, this⟩
  have hF : (takeS u.a (lbase u.a u.s) S c).2.2.full 7 := by
    rw [h3]
    exact takeS_full h.fu c
  exact this.mono fun e w' ⟨he, v, k1, k2, k3, k4, k5, k6⟩ => ⟨_, _, _, he, k6, h.mk' k1 k2 (k3.a.trans h3) (k3.s.trans h4) (k3.ft.trans h5) (fun f hf => (k3.rt f (.inl hf)).trans (h6 f hf)) k6 hF, hL⟩
theorem p_give (h : P16 w0 wb q S W) (x : Int) : Calls Tryz.prog 21 #[.pointer (some ⟨q.m, 0, none⟩), .int .i64 x] W fun e w' => ∃ (r : Nat) (S' : SS), e = .returned (.int .i64 r) ∧ Fr q.blocks W w' ∧ P16 w0 wb q S' w' := by
  obtain ⟨u, h1, h2, h3, h4, h5, h6⟩ := h.x
  have := sgive h1 h2 x
  have hF : (giveS u.a (lbase u.a u.s) S x).2.full 7 := by
    rw [h3]
    exact giveS_full h.fu x
  exact this.mono fun e w' ⟨he, v, k1, k2, k3, k4, k6⟩ => ⟨_, _, he, k6, h.mk' k1 k2 (k3.a.trans h3) (k3.s.trans h4) (k3.ft.trans h5) (fun f hf => (k3.rt f (.inl hf)).trans (h6 f hf)) k6 hF⟩
theorem p_write (h : P16 w0 wb q S W) (x n g c : Nat) (m : List Nat) (hx : Lv 7 S x n) (hb : Byt W (some ⟨g, 0, none⟩) m) (hg : wb.heap.size ≤ g) (hm : m.length ≤ 32) (k : Nat) (hk : m.length = k) : Calls Tryz.prog 57 #[.pointer (some ⟨q.m, 0, none⟩), .int .i64 x, .slice (some ⟨g, 0, none⟩) k c, .int .i64 5] W fun e w' => e = .returned (.bool true) ∧ Fr q.blocks W w' ∧ P16 w0 wb q S w' := by
  subst hk
  obtain ⟨u, h1, h2, h3, h4, h5, h6⟩ := h.x
  rw [← h3] at hx
  obtain ⟨b1, b2, b3, b4, b5, b6, b7⟩ := lv_at h2 h1.ok hx
  have hf : ∀ j, j < m.length → m[j]?.getD 0 < 256 := fun j hj => by
    rw [List.getElem?_eq_getElem hj]
    exact hb.byte _ (List.getElem_mem hj)
  refine (twrite h1.m x n 5 c (some ⟨g, 0, none⟩) m hb (fun g' o e => ?_) b1 b6 b7 (by omega) (by omega) (by omega) (by decide) x 5 rfl rfl).mono fun e w' ⟨he, k1, k2⟩ => ⟨he, k2, ?_⟩
  · injection e with e
    injection e with e1
    subst e1
    rintro rfl
    have := h.lt q.pw (by simp [MH.blocks])
    omega
  · exact h.mk' (h1.step k1 k2) (h2.write h1.ok hx (by omega) _ hf) h3 h4 h5 h6 k2 h.fu
end
end Go.Proofs.YtgoogihfggndpaaGreatDoor

/- Layer 16: played. -/
namespace Go.Proofs.YtgoogihfggndpaaGreatDoor
set_option linter.unusedVariables false
set_option linter.unusedSimpArgs false
open Go.RowKit

theorem cfg226 : Cfg 7 226 := ⟨by omega, by omega, by omega, by omega, by omega⟩
set_option maxRecDepth 100000 in
set_option maxHeartbeats 8000000 in
theorem xplayed (w : World) (hM : TabM w) (hT : Tabs w) (a : Option Addr) (c : Nat) (l : List A16) (h : ActA16 w a c l) (hl : l.length ≤ 200) :
    Calls Tryz.prog 17 #[.slice a l.length c] w fun e w' => ∃ (q : MH) (wb : World) (S : SS), e = .returned (.pointer (some ⟨q.m, 0, none⟩)) ∧ P16 w wb q S w' := by
  have hn := (show Calls Tryz.prog 39 #[.agg #[.int .i64 7, .int .i64 226]] w (NewH w 7 226) from hnew w hM hT 7 226 cfg226)
  have HA := Lib.hid h
  clear h
  generalize hN : l.length = N at *
  have HN := Lib.hid hN
  clear hN
  go_enter Tryz.func17, Tryz.ntmps17
  go_wp2_with fail
  with_reducible refine hn.mono ?_
  rintro e w1 ⟨q, rfl, h1, hq, f1⟩
  have hb := p_begin h1 cfg226
  clear hn h1
  go_wp2_with fail
  with_reducible refine hb.mono ?_
  rintro e w3 ⟨rfl, u3, h3, hs3, hl3, hf3⟩
  have HP0 := Lib.hid (show P16 w w3 q SS.zero w3 from ⟨⟨u3, h3, hs3, hl3.a, hl3.s, hl3.ft, fun f hf => hl3.rt f (.inl hf)⟩, f1.step hf3 (fun k hk => .inr (hq k hk)), hq, full_zero 7, h3.m.lt, Fr.refl _ _⟩)
  clear hb h3 hs3 hl3 hf3 f1 hq
  go_wp2_with fail
  go_loopw [4, 5] (fun u v W => ∃ (j : Nat) (L : List Nat) (S : SS), j ≤ N ∧ v = .int .i64 j ∧ Rw W w3.heap.size u L ∧ L.length ≤ j ∧ P16 w w3 q S W) (fun _ v _ => N - (intOf v).toNat)
  case atStart => exact ⟨0, [], _, by omega, rfl, Rw.nil _ _, by simp, HP0.out⟩
  case round =>
    clear HP0
    obtain ⟨j, L, S, hj, rfl, hR, hL, hP⟩ := hrel
    have HP := Lib.hid hP
    have HR := Lib.hid hR
    clear hP
    by_cases hlt : j < N
    · obtain ⟨B, off, rfl, hBl, hr⟩ := HA.out.row (by rw [HN.out]; omega)
      have hlt' : j < l.length := by rw [HN.out]; exact hlt
      have hrj := hr j hlt'
      have e0 := (HP.out.m.f.cell (p := ⟨B, off + j * 2, none⟩) hBl (by simp)).trans hrj.c0
      have HE1 := Lib.hid (fun W (hf : Fr [] w W) => (hf.cell (p := ⟨B, off + j * 2 + 1, none⟩) hBl (by simp)).trans hrj.c1)
      have e1 := HE1.out _ HP.out.m.f
      generalize l[j]'hlt' = y at *
      obtain ⟨yk, yn⟩ := y
      simp only at e0 e1 HE1
      have g2 : (0 : Int) ≤ j := by omega
      have g3 : (j : Int) < N := by omega
      have b6 : decide ((j : Int) < N) = true := by simp; omega
      have b6' : decide (j < N) = true := by simp; omega
      have wj : IntKind.i64.wrap ((j : Int) + 1) = (j : Int) + 1 := IntWalk.i64_in _ (by omega)
      clear hr hrj
      by_cases hk : yk < 3
      · have b5 : decide (yk < 3) = true := by simpa using hk
        have ht := p_take HP.out yn
        obtain ⟨jb, hjb, hcv⟩ : ∃ jb : Nat, jb < 256 ∧ IntKind.u8.wrap (j : Int) = (jb : Int) := by
          refine ⟨j % 256, Nat.mod_lt _ (by decide), ?_⟩
          have : IntKind.u8.wrap (j : Int) = (j : Int) % 256 := rfl
          rw [this]; omega
        clear hk
        go_wp2_with fail
        with_reducible refine ht.mono ?_
        rintro e w4 ⟨x, r, S', rfl, f4, hP4, hx⟩
        have HP4 := Lib.hid hP4
        have hR4 := hR.frq f4 HP.out.lt
        have HR4 := Lib.hid hR4
        have hs4 : w3.heap.size ≤ w4.heap.size := hP4.f.size
        have HX := Lib.hid hx
        clear ht e0 e1 hR hx hP4 hR4 f4
        by_cases h0 : r = 0
        · subst h0
          obtain ⟨n, hx⟩ := HX.out rfl
          have hLm : L.length ≤ 1048576 := by omega
          have b7 : (((0 : Nat) : Int) == 0) = true := by simp
          obtain ⟨ad, cap, rfl, -⟩ := own_row HR4.out
          go_wp2_with (at_builtin; go_must (refine wpList_append2 rfl _ _ rfl rfl w3.heap.size _ L rfl x w4 rfl HR4.out rfl hLm hs4 ?_); intro g5 cap5 w5 hO5 f5 hob5)
          have HO5 := Lib.hid (show Rw w5 w3.heap.size (.slice (some ⟨g5, 0, none⟩) (L.length + 1) cap5) (L ++ [x]) from hO5)
          have hP5 : P16 w w3 q S' w5 := HP4.out.frO f5 (fun k hk => (HR4.out.lt k (ownS_mem hk)).1)
          have HP5 := Lib.hid (hP5.fr0 ((Fr.refl [] w5).alloc (.cells #[.int .u8 (jb : Int), .int .u8 1, .int .u8 2, .int .u8 3, .int .u8 4, .int .u8 5, .int .u8 6, .int .u8 7, .int .u8 8] 5)))
          have hs5 := hP5.f.size
          have hw := p_write (c := 9) HP5.out x n w5.heap.size [jb, 1, 2, 3, 4, 5, 6, 7, 8] hx ((Blk.new w5 5 #[.int .u8 (jb : Int), .int .u8 1, .int .u8 2, .int .u8 3, .int .u8 4, .int .u8 5, .int .u8 6, .int .u8 7, .int .u8 8]).byt (l := [jb, 1, 2, 3, 4, 5, 6, 7, 8]) (by
            intro b hb
            simp at hb
            omega) (by simp)) hs5 (by simp) 9 rfl
          clear hO5 hob5 f5 hP5
          go_wp2_with fail
          with_reducible refine hw.mono ?_
          rintro e w6 ⟨rfl, f6, h6⟩
          have hlt3 := h6.lt
          go_wp2_with fail
          go_roundw
          case rel => exact ⟨j + 1, L ++ [x], S', by omega, by go_num, (HO5.out.fr0 ((Fr.refl [] w5).alloc _)).frq f6 hlt3, by simp; omega, h6⟩
          case measure => simp [intOf]; omega
        · have b7 : ((r : Int) == 0) = false := by simp; exact h0
          go_wp2_with fail
          go_roundw
          case rel => exact ⟨j + 1, L, S', by omega, by go_num, HR4.out, by omega, HP4.out⟩
          case measure => simp [intOf]; omega
      · have b5 : decide (yk < 3) = false := by simpa using hk
        obtain ⟨ad, cap, rfl, hrow⟩ := own_row hR
        clear hk
        by_cases hL0 : 0 < L.length
        · obtain ⟨g, rfl, hgb, hri⟩ := hrow hL0
          have b7 : decide ((0 : Int) < L.length) = true := by simp; omega
          have b7' : decide (0 < L.length) = true := by simp; omega
          by_cases hy : 0 ≤ yn
          · have b8 : decide (0 ≤ yn) = true := by simpa using hy
            obtain ⟨y, rfl⟩ : ∃ y : Nat, yn = y := ⟨yn.toNat, by omega⟩
            have hkl : y % L.length < L.length := Nat.mod_lt _ hL0
            have hc := hri.cell (y % L.length) hkl
            have hcap := hri.le
            generalize L[y % L.length] = z at *
            have hR1 : (y : Int).tmod L.length = ((y % L.length : Nat) : Int) := rfl
            have hR2 : (y : Int) % L.length = ((y % L.length : Nat) : Int) := rfl
            have hgv := p_give HP.out (z : Int)
            have hL2 := hL
            generalize hm : L.length = m at *
            generalize y % m = k at *
            have k0 : (0 : Int) ≤ k := by omega
            have k1 : (k : Int) < m := by omega
            have z1 : ((m : Int) == 0) = false := by simp; omega
            have z2 : ¬ m = 0 := by omega
            have HMm := Lib.hid hm
            have b9 : decide ((0 : Int) ≤ y) = true := by simp
            clear hy hri hrow hR hL0 hm
            go_wp2_with fail
            with_reducible refine hgv.mono ?_
            rintro e w4 ⟨r, S', rfl, f4, h4⟩
            have hlt3 := HP.out.lt
            go_wp2_with fail
            go_roundw
            case rel => exact ⟨j + 1, L, S', by omega, by go_num, HR.out.frq f4 hlt3, by rw [HMm.out]; omega, h4⟩
            case measure => simp [intOf]; omega
          · have b8 : decide (0 ≤ yn) = false := by simpa using hy
            clear hy hri hrow hR
            go_wp2_with fail
            go_roundw
            case rel => exact ⟨j + 1, L, S, by omega, by go_num, HR.out, by omega, HP.out⟩
            case measure => simp [intOf]; omega
        · obtain rfl : L = [] := List.eq_nil_of_length_eq_zero (by omega)
          have b7 : decide ((0 : Int) < 0) = false := by simp
          simp only [List.length_nil] at *
          clear hrow hL0 hR
          go_wp2_with fail
          go_roundw
          case rel => exact ⟨j + 1, [], S, by omega, by go_num, HR.out, by simp, HP.out⟩
          case measure => simp [intOf]; omega
    · obtain rfl : j = N := by omega
      have b6 : decide ((j : Int) < j) = false := by simp
      have b6' : decide (j < j) = false := by simp
      go_wp2_with fail
      go_ret
      exact ⟨q, w3, S, rfl, HP.out⟩
end Go.Proofs.YtgoogihfggndpaaGreatDoor

/- Layer 16: the runs of a memory with slabs tile it, and tell each place's kind. -/
namespace Go.Proofs.YtgoogihfggndpaaGreatDoor
set_option linter.unusedVariables false
set_option linter.unusedSimpArgs false
open Go.RowKit

section
variable {t : TM} {S : SS}
end
end Go.Proofs.YtgoogihfggndpaaGreatDoor
