/- Several texts in one. -/
import Derived.Test.YtellbfamofilaaaGreatDoorMF
import Derived.Test.YtellbfamofilaaaGreatDoorGI
import Derived.Test.YtellbfamofilaaaGreatDoorGA
import Derived.Test.YtellbfamofilaaaGreatDoorGD
import Derived.Deep.CutRange
/- law21.NodeHeld: what left leaves, in plain words; writes into rows of the walk's own. -/
namespace Go.Proofs.YtellbfamofilaaaGreatDoor
set_option linter.unusedVariables false
set_option linter.unusedSimpArgs false
open Go.RowKit

theorem Rem.trans {own par : Nat → Nat} {l m k : List Nat} (h : Rem own par l m) (h2 : Rem own par m k) : Rem own par l k := by
  induction h2 with
  | refl => exact h
  | step _ h3 h4 h5 ih => exact .step ih h3 h4 h5
theorem rem_filter {own par : Nat → Nat} {L : List Nat} (hn : L.Nodup) : ∀ D : List Nat, (∀ x ∈ D, x ∈ L → own x = 0 ∧ ∀ z ∈ L, par z ≠ x) → Rem own par L (L.filter fun y => decide (y ∉ D))
  | [], _ => by rw [List.filter_eq_self.2 (fun y _ => by simp)]; exact .refl L
  | x :: D, h => by
    have ih := rem_filter hn D (fun y hy => h y (List.mem_cons_of_mem _ hy))
    by_cases hx : x ∈ L.filter fun y => decide (y ∉ D)
    · have hxL := (List.mem_filter.1 hx).1
      obtain ⟨h1, h2⟩ := h x List.mem_cons_self hxL
      have h3 := ih.step hx h1 (fun z hz => h2 z (List.mem_filter.1 hz).1)
      rw [List.Nodup.erase_eq_filter (List.Pairwise.filter _ hn), List.filter_filter] at h3
      have e : (L.filter fun y => decide (y ∉ x :: D)) = L.filter fun a => (a != x) && decide (a ∉ D) := List.filter_congr fun y hy => by
        rw [Bool.eq_iff_iff]
        simp
      rw [e]
      exact h3
    · have e : (L.filter fun y => decide (y ∉ x :: D)) = L.filter fun y => decide (y ∉ D) := List.filter_congr fun y hy => by
        rw [Bool.eq_iff_iff]
        simp
        intro hyD hyx
        exact hx (List.mem_filter.2 ⟨hyx ▸ hy, by simpa using hyx ▸ hyD⟩)
      rw [e]
      exact ih
/-- Is a node of l kept: held, or the parent of one? -/
def kpB (own par : Nat → Nat) (l : List Nat) (y : Nat) : Bool := !(decide (own y = 0) && decide (bel par l y = 0))
def keepL (own par : Nat → Nat) (l : List Nat) (k : Nat) : List Nat := (l.take k).filter (kpB own par l)
theorem keep_zero (own par : Nat → Nat) (l : List Nat) : keepL own par l 0 = [] := by simp [keepL]
theorem keep_yes {own par : Nat → Nat} {l : List Nat} {k c : Nat} (h : l[k]? = some c) (h1 : kpB own par l c = true) : keepL own par l (k + 1) = keepL own par l k ++ [c] := by
  unfold keepL
  rw [List.take_add_one, h, Option.toList_some, List.filter_append, List.filter_cons, if_pos h1]
  rfl
theorem keep_no {own par : Nat → Nat} {l : List Nat} {k c : Nat} (h : l[k]? = some c) (h1 : kpB own par l c = false) : keepL own par l (k + 1) = keepL own par l k := by
  unfold keepL
  rw [List.take_add_one, h, Option.toList_some, List.filter_append, List.filter_cons, h1]
  simp
theorem keep_rem {own par : Nat → Nat} {l : List Nat} (hn : l.Nodup) : Rem own par l (keepL own par l l.length) := by
  unfold keepL
  rw [List.take_length]
  have := rem_filter (own := own) (par := par) hn (l.filter fun y => !kpB own par l y) (fun x hx _ => by
    have h1 := (List.mem_filter.1 hx).2
    simp [kpB] at h1
    refine ⟨h1.1, fun z hz e => ?_⟩
    exact bel_pos.2 ⟨z, hz, e⟩ h1.2)
  have e : l.filter (kpB own par l) = l.filter fun y => decide (y ∉ l.filter fun y => !kpB own par l y) := List.filter_congr fun y hy => by
    rw [Bool.eq_iff_iff]
    simp [hy]
  rw [e]
  exact this
theorem keep_firm {own par : Nat → Nat} {l : List Nat} (h : (keepL own par l l.length).length = l.length) : keepL own par l l.length = l ∧ Firm own par l := by
  unfold keepL at h ⊢
  rw [List.take_length] at h ⊢
  have e := List.filter_sublist (p := kpB own par l) (l := l) |>.eq_of_length h
  refine ⟨e, fun y hy h0 => ?_⟩
  have hk := (List.mem_filter.1 (show y ∈ l.filter (kpB own par l) by rw [e]; exact hy)).2
  simp [kpB, h0] at hk
  exact bel_pos.1 hk
/-- Three rows: nodes, parents, by how many each is held. -/
structure RN (base : Nat) (v1 v2 v3 : Value) (l : List Nat) (own par : Nat → Nat) (W : World) : Prop where
  a : Rw W base v1 l
  s : Rw W base v2 (l.map par)
  m : Rw W base v3 (l.map own)
  d12 : Dj v1 v2
  d13 : Dj v1 v3
  d23 : Dj v2 v3
section
variable {base : Nat} {v1 v2 v3 : Value} {l : List Nat} {own par : Nat → Nat} {W W' : World}
theorem RN.fr0 (h : RN base v1 v2 v3 l own par W) (hf : Fr [] W W') : RN base v1 v2 v3 l own par W' := ⟨h.a.fr0 hf, h.s.fr0 hf, h.m.fr0 hf, h.d12, h.d13, h.d23⟩
theorem RN.frq {S : List Nat} (h : RN base v1 v2 v3 l own par W) (hf : Fr S W W') (hS : ∀ k ∈ S, k < base) : RN base v1 v2 v3 l own par W' := ⟨h.a.frq hf hS, h.s.frq hf hS, h.m.frq hf hS, h.d12, h.d13, h.d23⟩
theorem RN.lo {base' : Nat} (h : RN base' v1 v2 v3 l own par W) (hb : base ≤ base') : RN base v1 v2 v3 l own par W := ⟨h.a.lo hb, h.s.lo hb, h.m.lo hb, h.d12, h.d13, h.d23⟩
theorem RN.nil (base : Nat) (W : World) (own par : Nat → Nat) : RN base (.slice none 0 0) (.slice none 0 0) (.slice none 0 0) [] own par W := ⟨Rw.nil _ _, Rw.nil _ _, Rw.nil _ _, Dj.nilL _, Dj.nilL _, Dj.nilL _⟩
theorem RN.congr {own' par' : Nat → Nat} (h : RN base v1 v2 v3 l own par W) (h1 : ∀ y ∈ l, own' y = own y) (h2 : ∀ y ∈ l, par' y = par y) : RN base v1 v2 v3 l own' par' W :=
  ⟨h.a, by rw [List.map_congr_left h2]; exact h.s, by rw [List.map_congr_left h1]; exact h.m, h.d12, h.d13, h.d23⟩
/-- The three slices, as they are read. -/
theorem RN.rows (h : RN base v1 v2 v3 l own par W) : ∃ a1 c1 a2 c2 a3 c3, v1 = .slice a1 l.length c1 ∧ v2 = .slice a2 l.length c2 ∧ v3 = .slice a3 l.length c3 ∧ RowV W base a1 c1 l ∧ RowV W base a2 c2 (l.map par) ∧ RowV W base a3 c3 (l.map own) := by
  obtain ⟨a1, c1, e1, r1⟩ := own_row h.a
  obtain ⟨a2, c2, e2, r2⟩ := own_row h.s
  obtain ⟨a3, c3, e3, r3⟩ := own_row h.m
  rw [List.length_map] at e2 e3
  exact ⟨a1, c1, a2, c2, a3, c3, e1, e2, e3, r1, r2, r3⟩
theorem RN.rowsV {e1 e2 e3 : Option Addr} {f1 f2 f3 n : Nat} (h : RN base (.slice e1 n f1) (.slice e2 n f2) (.slice e3 n f3) l own par W) (hn : l.length = n) : RowV W 0 e1 f1 l ∧ RowV W 0 e2 f2 (l.map par) ∧ RowV W 0 e3 f3 (l.map own) := by
  have lo : ∀ {ad : Option Addr} {cap : Nat} {L : List Nat}, RowV W base ad cap L → RowV W 0 ad cap L := fun h h0 => by
    obtain ⟨g, e, hb, hr⟩ := h h0
    exact ⟨g, e, Nat.zero_le _, hr⟩
  obtain ⟨a1, c1, k1, r1⟩ := own_row h.a
  obtain ⟨a2, c2, k2, r2⟩ := own_row h.s
  obtain ⟨a3, c3, k3, r3⟩ := own_row h.m
  injection k1 with k1 _ m1
  injection k2 with k2 _ m2
  injection k3 with k3 _ m3
  subst k1 k2 k3 m1 m2 m3
  exact ⟨lo r1, lo r2, lo r3⟩
/-- An append to all three. -/
theorem RN.app {W1 W2 W3 : World} {g1 g2 g3 q1 q2 q3 n x : Nat} (h : RN base v1 v2 v3 l own par W) (hn : n = l.length + 1)
    (hO1 : W1.ownsRow base 3 1 (.slice (some ⟨g1, 0, none⟩) n q1) (l ++ [x]).length (intC (l ++ [x]))) (hF1 : Fr (ownS v1) W W1) (hob1 : v1.ownBlock = some g1 ∨ g1 = W.heap.size + 1)
    (hO2 : W2.ownsRow base 3 1 (.slice (some ⟨g2, 0, none⟩) n q2) (l.map par ++ [par x]).length (intC (l.map par ++ [par x]))) (hF2 : Fr (ownS v2) W1 W2) (hob2 : v2.ownBlock = some g2 ∨ g2 = W1.heap.size + 1)
    (hO3 : W3.ownsRow base 3 1 (.slice (some ⟨g3, 0, none⟩) n q3) (l.map own ++ [own x]).length (intC (l.map own ++ [own x]))) (hF3 : Fr (ownS v3) W2 W3) (hob3 : v3.ownBlock = some g3 ∨ g3 = W2.heap.size + 1) :
    RN base (.slice (some ⟨g1, 0, none⟩) n q1) (.slice (some ⟨g2, 0, none⟩) n q2) (.slice (some ⟨g3, 0, none⟩) n q3) (l ++ [x]) own par W3 := by
  have rs1 := h.s.dj hF1 h.d12
  have rm1 := h.m.dj hF1 h.d13
  have rm2 := rm1.dj hF2 h.d23
  have d21 : Dj v2 (.slice (some ⟨g1, 0, none⟩) n q1) := (Rw.djN h.s hob1 h.d12).symm
  have d31 : Dj v3 (.slice (some ⟨g1, 0, none⟩) n q1) := (Rw.djN h.m hob1 h.d13).symm
  have d32 : Dj v3 (.slice (some ⟨g2, 0, none⟩) n q2) := (Rw.djN rm1 hob2 h.d23).symm
  have hA1 : Rw W1 base (.slice (some ⟨g1, 0, none⟩) n q1) (l ++ [x]) := hO1
  have hA2 : Rw W2 base (.slice (some ⟨g2, 0, none⟩) n q2) (l.map par ++ [par x]) := hO2
  have hA3 : Rw W3 base (.slice (some ⟨g3, 0, none⟩) n q3) (l.map own ++ [own x]) := hO3
  have hA12 := hA1.dj hF2 d21
  have hA13 := hA12.dj hF3 d31
  have hA23 := hA2.dj hF3 d32
  exact ⟨hA13, by rw [List.map_append]; exact hA23, by rw [List.map_append]; exact hA3, (Rw.djN hA1 hob2 d21).symm, (Rw.djN hA12 hob3 d31).symm, (Rw.djN hA2 hob3 d32).symm⟩
end
theorem fr_own2 {w W W' : World} {base : Nat} {v : Value} {L : List Nat} (h : Rw W base v L) (hf : Fr [] w W) (hb : w.heap.size ≤ base) (hF : Fr (ownS v) W W') : Fr [] w W' :=
  hf.step hF (fun k hk => .inr (by have := (h.lt k (ownS_mem hk)).1; omega))
/-- A number of a row is written. -/
theorem Rw.setI {W : World} {base g cap n : Nat} {L : List Nat} (h : Rw W base (.slice (some ⟨g, 0, none⟩) n cap) L) (i v : Nat) (hi : i < L.length) : Rw (W.setCell ⟨g, i, none⟩ (.int .i64 v)) base (.slice (some ⟨g, 0, none⟩) n cap) (L.set i v) := by
  obtain ⟨h1, ⟨h2, h3⟩ | ⟨g', cap', cur, e, hb, hg, r1, r2, r3, r4⟩⟩ := h
  · omega
  · injection e with e1 e2 e3
    injection e1 with e1
    injection e1 with e1
    subst e1 e3
    have hs := Blk.set (g := g) (t := 3) (cs := cur) hg i (.int .i64 v)
    refine ⟨by simp [intC], .inr ⟨g, cap, _, by rw [e2, List.length_set], hb, hs, by rw [List.length_set]; exact r1, r2, by simpa using r3, ?_⟩⟩
    rw [Nat.mul_one] at r4 ⊢
    rw [List.length_set, Array.toList_setIfInBounds, List.take_set, r4]
    unfold intC
    rw [List.map_set]
theorem RowI.frozen {w : World} {g cap : Nat} {l : List Nat} (h : RowI w g cap l) (i : Nat) : w.frozen? ⟨g, i, none⟩ = false := by
  obtain ⟨cur, hb, _⟩ := h
  exact hb.frozen i
theorem set_map {f : Nat → Nat} {u v : Nat} : ∀ {l : List Nat} {k : Nat}, l.Nodup → l[k]? = some u → (l.map f).set k v = l.map (up f u v)
  | [], k, _, h => by simp at h
  | a :: l, 0, hn, h => by
    simp at h
    subst h
    rw [List.nodup_cons] at hn
    rw [List.map_cons, List.set_cons_zero, List.map_cons, up_same]
    congr 1
    exact List.map_congr_left fun y hy => (up_ne _ _ (fun e => hn.1 (by rw [← e]; exact hy))).symm
  | a :: l, k + 1, hn, h => by
    rw [List.getElem?_cons_succ] at h
    rw [List.nodup_cons] at hn
    rw [List.map_cons, List.set_cons_succ, List.map_cons, set_map hn.2 h, up_ne _ _ (fun e => hn.1 (by rw [e]; exact List.mem_of_getElem? h))]
/-- By how many a node is held, is written. -/
theorem RN.setO {base g n c k u : Nat} {v1 v2 : Value} {l : List Nat} {own par : Nat → Nat} {W : World} (h : RN base v1 v2 (.slice (some ⟨g, 0, none⟩) n c) l own par W) (hn : l.Nodup) (hk : l[k]? = some u) (v : Nat) :
    RN base v1 v2 (.slice (some ⟨g, 0, none⟩) n c) l (up own u v) par (W.setCell ⟨g, k, none⟩ (.int .i64 v)) ∧ base ≤ g ∧ Fr [g] W (W.setCell ⟨g, k, none⟩ (.int .i64 v)) ∧ W.frozen? ⟨g, k, none⟩ = false := by
  have hlt : k < l.length := (List.getElem?_eq_some_iff.1 hk).1
  have hf : Fr [g] W (W.setCell ⟨g, k, none⟩ (.int .i64 v)) := (Fr.refl [g] W).setCell (p := ⟨g, k, none⟩) (.inl (by simp)) _
  obtain ⟨hr, hb⟩ := h.m.rowI (by rw [List.length_map]; omega)
  have hs := h.m.setI k v (by rw [List.length_map]; exact hlt)
  rw [set_map hn hk] at hs
  exact ⟨⟨h.a.fr hf (fun k hk e => by simp at hk; subst hk; exact h.d13 _ e rfl), h.s.fr hf (fun k hk e => by simp at hk; subst hk; exact h.d23 _ e rfl), hs, h.d12, h.d13, h.d23⟩, hb, hf, hr.frozen k⟩
/-- Blocks from base on are none of the memory's, and none of the tables'. -/
structure BaseOk (w0 : World) (q : MH) (base : Nat) : Prop where
  q : ∀ k ∈ q.blocks, k < base
  g : 5 ≤ base
  w : w0.heap.size ≤ base
section
variable {w0 W W' : World} {q : MH} {S : SS} {u u0 : TM} {L : Nat → Prop} {l : List Nat} {E : Nat → HB} {B : Nat → List Nat} {par refs : Nat → Nat} {fr base : Nat} {Bs : List Nat}
theorem WB.frL (g : WB w0 q S L u E B W) (ok : BaseOk w0 q base) (hf : Fr Bs W W') (hB : ∀ k ∈ Bs, base ≤ k) : WB w0 q S L u E B W' :=
  ⟨⟨g.h.m.fr hf (fun k hk hm => by have := ok.q k hk; have := hB k hm; omega) (fun k hk hm => by have := hB k hm; have := ok.g; omega), g.h.tabs.fr hf (fun k hk => by have := hB k hk; have := ok.g; omega), g.h.hi⟩, g.sl, g.ix, g.rh, g.ct, g.a, g.s, g.ft, g.f.step hf (fun k hk => .inr (Nat.le_trans ok.w (hB k hk))), g.hq, g.fl⟩
theorem NI.frL (g : NI w0 q S L l u E B W) (ok : BaseOk w0 q base) (hf : Fr Bs W W') (hB : ∀ k ∈ Bs, base ≤ k) : NI w0 q S L l u E B W' := ⟨g.wb.frL ok hf hB, g.nd, g.mem, g.cnt, g.inx, g.up, g.hs, g.lb, g.one⟩
theorem NP.frL (g : NP w0 q u0 l par refs B fr W) (ok : BaseOk w0 q base) (hf : Fr Bs W W') (hB : ∀ k ∈ Bs, base ≤ k) : NP w0 q u0 l par refs B fr W' := by
  obtain ⟨S, L, u, E, B0, h1, h2⟩ := g
  exact ⟨S, L, u, E, B0, h1.frL ok hf hB, h2⟩
/-- The world that a memory stands in. -/
theorem NP.bok (g : NP w0 q u0 l par refs B fr W) : BaseOk w0 q W.heap.size := by
  obtain ⟨S, L, u, E, B0, h1, h2⟩ := g
  refine ⟨h1.wb.lt, ?_, h1.wb.f.size⟩
  have h1' := h1.wb.h.m.tab.size
  have h2' := h1.wb.h.tabs.size
  omega
end
end Go.Proofs.YtellbfamofilaaaGreatDoor

/- law21.NodeHeld: below. -/
namespace Go.Proofs.YtellbfamofilaaaGreatDoor
set_option linter.unusedVariables false
set_option linter.unusedSimpArgs false
open Go.RowKit

def cntL (L : List Nat) (x : Nat) : Nat := L.countP (fun z => z == x)
theorem cntL_take {L : List Nat} {x k c : Nat} (h : L[k]? = some c) : cntL (L.take (k + 1)) x = cntL (L.take k) x + (if c = x then 1 else 0) := by
  unfold cntL
  rw [List.take_add_one, h, Option.toList_some, List.countP_append, List.countP_cons]
  simp
theorem hbelow (w : World) (ad : Option Addr) (cap : Nat) (L : List Nat) (base x : Nat) (h : RowV w base ad cap L) (hl : L.length ≤ 1048576) :
    Calls Tryz.prog 17 #[.slice ad L.length cap, .int .i64 x] w fun e w' => e = .returned (.int .i64 (cntL L x)) ∧ w' = w := by
  have HR := Lib.hid h
  have HC := Lib.hid (fun k c (hc : L[k]? = some c) => cntL_take (x := x) hc)
  have HLe := Lib.hid (fun k => (show cntL (L.take k) x ≤ k from by
    have := List.countP_le_length (p := fun z => z == x) (l := L.take k)
    rw [List.length_take] at this
    unfold cntL
    omega))
  have HF := Lib.hid (show cntL (L.take L.length) x = cntL L x from by rw [List.take_length])
  have HZ := Lib.hid (show cntL (L.take 0) x = 0 from rfl)
  obtain ⟨M, hM⟩ : ∃ M : Nat → Nat, (fun k => cntL (L.take k) x) = M := ⟨_, rfl⟩
  have hM' : ∀ k, cntL (L.take k) x = M k := fun k => by rw [← hM]
  simp only [hM'] at HC HLe HF HZ
  rw [← HF.out]
  clear hM hM' h
  generalize hn : L.length = n at *
  have HN := Lib.hid hn
  clear hn
  go_enter Tryz.func17, Tryz.ntmps17
  go_wp2_with fail
  go_loopw [5, 6] (fun v5 v6 V => ∃ k : Nat, k ≤ n ∧ v5 = .int .i64 (M k) ∧ v6 = .int .i64 k ∧ V = w) (fun _ v6 _ => n - (intOf v6).toNat)
  case atStart => exact ⟨0, Nat.zero_le _, by rw [HZ.out]; rfl, rfl, rfl⟩
  case round =>
    obtain ⟨k, hk, rfl, rfl, rfl⟩ := hrel
    by_cases hlt : k < n
    · obtain ⟨g, rfl, hg, hr⟩ := HR.out (by rw [HN.out]; omega)
      have hkl : k < L.length := by rw [HN.out]; exact hlt
      have hcell := hr.cell k hkl
      have hcap := hr.le
      have HC1 := Lib.hid (HC.out k (L[k]'hkl) (List.getElem?_eq_getElem hkl))
      have hmk := HLe.out k
      generalize L[k]'hkl = c at *
      have b6 : decide ((k : Int) < n) = true := by simp; omega
      have b6' : decide (k < n) = true := by simp; omega
      have g2 : (0 : Int) ≤ k := by omega
      have g3 : (k : Int) < n := by omega
      have wk : IntKind.i64.wrap ((k : Int) + 1) = (k : Int) + 1 := IntWalk.i64_in _ (by omega)
      clear hr hcap
      by_cases hcx : c = x
      · have b7 : ((c : Int) == (x : Int)) = true := by simp; omega
        have HC2 := Lib.hid (show M (k + 1) = M k + 1 from by rw [HC1.out, if_pos hcx])
        have wm : IntKind.i64.wrap ((M k : Int) + 1) = ((M k + 1 : Nat) : Int) := by rw [IntWalk.i64_in _ (by omega)]; push_cast; rfl
        clear hcx
        go_wp2_with fail
        go_roundw
        case rel => exact ⟨k + 1, by omega, by rw [HC2.out]; rfl, by go_num, trivial⟩
        case measure => simp [intOf]; omega
      · have b7 : ((c : Int) == (x : Int)) = false := by simp; omega
        have HC2 := Lib.hid (show M (k + 1) = M k from by rw [HC1.out, if_neg hcx]; rfl)
        clear hcx
        go_wp2_with fail
        go_roundw
        case rel => exact ⟨k + 1, by omega, by rw [HC2.out], by go_num, trivial⟩
        case measure => simp [intOf]; omega
    · obtain rfl : k = n := by omega
      have b6 : decide ((k : Int) < k) = false := by simp
      have b6' : decide (k < k) = false := by simp
      go_wp2_with fail
      go_ret
      exact ⟨rfl, rfl⟩
end Go.Proofs.YtellbfamofilaaaGreatDoor

/- law21.NodeHeld: left. -/
namespace Go.Proofs.YtellbfamofilaaaGreatDoor
set_option linter.unusedVariables false
set_option linter.unusedSimpArgs false
open Go.RowKit

theorem RowV.lo {w : World} {base cap : Nat} {ad : Option Addr} {l : List Nat} (h : RowV w base ad cap l) : RowV w 0 ad cap l := fun h0 => by
  obtain ⟨g, e, hb, hr⟩ := h h0
  exact ⟨g, e, Nat.zero_le _, hr⟩
theorem RowV.fr00 {w w' : World} {cap : Nat} {ad : Option Addr} {l : List Nat} (h : RowV w 0 ad cap l) (hf : Fr [] w w') : RowV w' 0 ad cap l := h.fr hf (by simp)
theorem RowV.look {w : World} {cap : Nat} {ad : Option Addr} {l : List Nat} (h : RowV w 0 ad cap l) {i c : Nat} (hi : l[i]? = some c) : ∃ g, ad = some ⟨g, 0, none⟩ ∧ ∀ W, Fr [] w W → W.cell? ⟨g, i, none⟩ = some (.int .i64 c) := by
  obtain ⟨hlt, e⟩ := List.getElem?_eq_some_iff.1 hi
  obtain ⟨g, e1, _, hr⟩ := h (by omega)
  refine ⟨g, e1, fun W hW => ?_⟩
  have := (hr.fr hW (by simp)).cell i hlt
  rw [e] at this
  exact this
theorem cnt_bel (par : Nat → Nat) (l : List Nat) (x : Nat) : cntL (l.map par) x = bel par l x := by
  unfold cntL bel
  rw [List.countP_map]
  rfl
set_option maxRecDepth 100000 in
set_option maxHeartbeats 8000000 in
theorem hleft (w : World) (a1 a2 a3 : Option Addr) (c1 c2 c3 : Nat) (l : List Nat) (own par : Nat → Nat) (h1 : RowV w 0 a1 c1 l) (h2 : RowV w 0 a2 c2 (l.map par)) (h3 : RowV w 0 a3 c3 (l.map own)) (hn : l.Nodup) (hl : l.length ≤ 1000) :
    Calls Tryz.prog 16 #[.slice a1 l.length c1, .slice a2 l.length c2, .slice a3 l.length c3] w fun e w' => ∃ v1 v2 v3 l', e = .returned (.tuple #[v1, v2, v3]) ∧ RN w.heap.size v1 v2 v3 l' own par w' ∧ Rem own par l l' ∧ Firm own par l' ∧ Fr [] w w' := by
  have H0 := Lib.hid (And.intro h1 (And.intro h2 h3))
  have HN := Lib.hid hn
  have HR0 := Lib.hid (Rem.refl (own := own) (par := par) l)
  obtain ⟨n, hlen⟩ : ∃ n, l.length = n := ⟨_, rfl⟩
  rw [hlen] at hl
  have HL := Lib.hid hlen
  rw [hlen]
  clear h1 h2 h3 hn hlen
  go_enter Tryz.func16, Tryz.ntmps16
  go_wp2_with fail
  go_loopg [0, 1, 2, 9] (n + 2) (fun gk v1 v2 v3 vm W => ∃ (m : Nat) (mr : Bool) (b1 b2 b3 : Option Addr) (d1 d2 d3 : Nat), v1 = .slice b1 m d1 ∧ v2 = .slice b2 m d2 ∧ v3 = .slice b3 m d3 ∧ vm = .bool mr ∧ m ≤ n ∧ (if mr = true then m + 1 < gk else 0 < gk) ∧ Hid (∃ l', l'.length = m ∧ Rem own par l l' ∧ RowV W 0 b1 d1 l' ∧ RowV W 0 b2 d2 (l'.map par) ∧ RowV W 0 b3 d3 (l'.map own) ∧ (mr = false → Firm own par l' ∧ RN w.heap.size v1 v2 v3 l' own par W)) ∧ Hid (Fr [] w W))
  case atStart => exact ⟨n, true, a1, a2, a3, c1, c2, c3, rfl, rfl, rfl, rfl, Nat.le_refl _, by simp, Lib.hid ⟨l, HL.out, HR0.out, H0.out.1, H0.out.2.1, H0.out.2.2, fun h => (by cases h)⟩, Lib.hid (Fr.refl [] w)⟩
  case round =>
    obtain ⟨m, mr, b1, b2, b3, d1, d2, d3, rfl, rfl, rfl, rfl, hm, hgk, hx, F3⟩ := hrel
    cases mr with
    | true =>
      simp only [if_true] at hgk
      obtain ⟨l', hl', hr', k1, k2, k3, -⟩ := hx.out
      have HX := Lib.hid (show l'.length = m ∧ Rem own par l l' ∧ RowV wr 0 b1 d1 l' ∧ RowV wr 0 b2 d2 (l'.map par) ∧ RowV wr 0 b3 d3 (l'.map own) ∧ l'.Nodup from ⟨hl', hr', k1, k2, k3, hr'.sub.nodup HN.out⟩)
      clear hl' hr' k1 k2 k3 hx H0 HR0
      obtain ⟨V, hV⟩ : ∃ V, V = wr := ⟨_, rfl⟩
      subst hV
      obtain ⟨G, hG⟩ : ∃ G, G = gk := ⟨_, rfl⟩
      subst hG
      have HS := Lib.hid (show V.heap.size ≤ V.heap.size ∧ w.heap.size ≤ V.heap.size from ⟨Nat.le_refl _, F3.out.size⟩)
      obtain ⟨wb, hwb⟩ : ∃ wb, V.heap.size = wb := ⟨_, rfl⟩
      have HWB := Lib.hid hwb
      have HS1 := Lib.hid (show V.heap.size ≤ wb ∧ w.heap.size ≤ wb from ⟨Nat.le_of_eq hwb, hwb ▸ F3.out.size⟩)
      clear hwb
      have Z0 := Lib.hid (show RN wb (.slice none 0 0) (.slice none 0 0) (.slice none 0 0) (keepL own par l' 0) own par V from by rw [keep_zero]; exact RN.nil _ _ _ _)
      have ZF := Lib.hid (Fr.refl [] V)
      have w0eq : (keepL own par l' 0).length = 0 := by rw [keep_zero]; rfl
      go_wp2_with fail
      go_loopg [9, 10, 11, 12, 13] (m + 1) (fun gj vm v1 v2 v3 vi W => ∃ (i p : Nat) (mr : Bool) (e1 e2 e3 : Option Addr) (f1 f2 f3 : Nat), vm = .bool mr ∧ v1 = .slice e1 p f1 ∧ v2 = .slice e2 p f2 ∧ v3 = .slice e3 p f3 ∧ vi = .int .i64 i ∧ (i + gj = m + 1 ∧ i ≤ m) ∧ p ≤ i ∧ (mr = decide (p < i)) ∧ Hid (p = (keepL own par l' i).length) ∧ Hid (RN wb (.slice e1 p f1) (.slice e2 p f2) (.slice e3 p f3) (keepL own par l' i) own par W) ∧ Hid (Fr [] V W))
      case atStart => exact ⟨0, 0, false, none, none, none, 0, 0, 0, rfl, rfl, rfl, rfl, rfl, by omega, by omega, by simp, Lib.hid w0eq.symm, Z0, ZF⟩
      case round =>
        clear Z0 ZF w0eq
        obtain ⟨i, p, mr, e1, e2, e3, f1, f2, f3, rfl, rfl, rfl, rfl, rfl, hij, hpi, rfl, HP, HRN, HF⟩ := hrel
        obtain ⟨K, hK⟩ : ∃ K, keepL own par l' i = K := ⟨_, rfl⟩
        have hp : p = K.length := by rw [HP.out, hK]
        subst hp
        rw [hK] at HRN
        clear HP
        by_cases hlt : i < m
        · obtain ⟨c, hc⟩ : ∃ c, l'[i]? = some c := ⟨_, List.getElem?_eq_getElem (by rw [HX.out.1]; exact hlt)⟩
          obtain ⟨g1, rfl, C1⟩ := HX.out.2.2.1.look hc
          obtain ⟨g2, rfl, C2⟩ := HX.out.2.2.2.1.look (c := par c) (by rw [List.getElem?_map, hc]; rfl)
          obtain ⟨g3, rfl, C3⟩ := HX.out.2.2.2.2.1.look (c := own c) (by rw [List.getElem?_map, hc]; rfl)
          have HB := Lib.hid (fun W (hW : Fr [] V W) => (show Calls Tryz.prog 17 #[.slice (some ⟨g2, 0, none⟩) m d2, .int .i64 c] W fun e w' => e = .returned (.int .i64 (bel par l' c)) ∧ w' = W from by
            have := hbelow W (some ⟨g2, 0, none⟩) d2 (l'.map par) 0 c (HX.out.2.2.2.1.fr00 hW) (by rw [List.length_map, HX.out.1]; omega)
            rw [List.length_map, HX.out.1, cnt_bel] at this
            exact this))
          have HYes := Lib.hid (fun h => (keep_yes (own := own) (par := par) hc h))
          have HNo := Lib.hid (fun h => (keep_no (own := own) (par := par) hc h))
          rw [hK] at HYes HNo
          have HKP := Lib.hid (show kpB own par l' c = !(decide (own c = 0) && decide (bel par l' c = 0)) from rfl)
          have HOC := Lib.hid (Eq.refl (own c))
          have HPC := Lib.hid (Eq.refl (par c))
          have c1 := C1 wr HF.out
          have c2 := C2 wr HF.out
          have c3 := C3 wr HF.out
          have HC1 := Lib.hid C1
          have HC2 := Lib.hid C2
          have HC3 := Lib.hid C3
          have b6 : decide ((i : Int) < m) = true := by simp; omega
          have b6' : decide (i < m) = true := by simp; omega
          have i0 : (0 : Int) ≤ i := by omega
          have i1 : (i : Int) < m := by omega
          have wi : IntKind.i64.wrap ((i : Int) + 1) = (i : Int) + 1 := IntWalk.i64_in _ (by omega)
          clear C1 C2 C3 hc
          generalize hkv : kpB own par l' c = kv at *
          generalize hbc : bel par l' c = bc at *
          generalize hoc : own c = oc at *
          generalize hpc : par c = pc at *
          have HKV := Lib.hid hkv
          have HO := Lib.hid hoc
          have HPp := Lib.hid hpc
          have HK := Lib.hid hK
          clear hkv hbc hoc hpc hK HOC HPC
          go_upto_region 8 with fail
          go_cut [34] from 15 to 55 (fun s34 wx => s34 = .bool (!kv) ∧ wr = wx)
          case first =>
            by_cases ho : oc = 0
            · have b1 : ((oc : Int) == 0) = true := by simp; omega
              have b1' : (oc == 0) = true := by simp; omega
              go_wp2_with fail
              with_reducible refine (HB.out _ HF.out).mono ?_
              rintro e w' ⟨rfl, he⟩
              rw [he]
              by_cases hb : bc = 0
              · have b2 : ((bc : Int) == 0) = true := by simp; omega
                have b2' : (bc == 0) = true := by simp; omega
                go_wp2_with fail
                go_meet
                exact ⟨by rw [HKP.out, decide_eq_true ho, decide_eq_true hb]; rfl, rfl⟩
              · have b2 : ((bc : Int) == 0) = false := by simp; omega
                have b2' : (bc == 0) = false := by simp; omega
                go_wp2_with fail
                go_meet
                exact ⟨by rw [HKP.out, decide_eq_true ho, decide_eq_false hb]; rfl, rfl⟩
            · have b1 : ((oc : Int) == 0) = false := by simp; omega
              have b1' : (oc == 0) = false := by simp; omega
              go_wp2_with fail
              go_meet
              exact ⟨by rw [HKP.out, decide_eq_false ho]; rfl, rfl⟩
          case rest =>
            obtain ⟨rfl, rfl⟩ := hcut
            clear HKP HB
            cases kv with
            | false =>
              have hno := Lib.hid (HNo.out rfl)
              go_wp2_with fail
              go_roundg (gk - 1)
              case measure => omega
              case rel => exact ⟨i + 1, K.length, true, e1, e2, e3, f1, f2, f3, rfl, rfl, rfl, rfl, by go_num, by omega, by omega, by simp; omega, Lib.hid (by rw [hno.out]), Lib.hid (by rw [hno.out]; exact HRN.out), HF⟩
            | true =>
              have HKY := Lib.hid (HYes.out rfl)
              have ra := Lib.hid HRN.out.a
              have rs := Lib.hid HRN.out.s
              have rm := Lib.hid HRN.out.m
              have hs8 : wb ≤ wr.heap.size := by have := HF.out.size; have := HWB.out; omega
              have l1 : K.length ≤ 1048576 := by omega
              have l2 : (K.map par).length ≤ 1048576 := by rw [List.length_map]; omega
              have l3 : (K.map own).length ≤ 1048576 := by rw [List.length_map]; omega
              go_wp2_with (first | (at_builtin; refine wpList_append2 rfl _ _ rfl rfl wb _ _ rfl c wr rfl ra.out rfl l1 hs8 ?_; intro z1 q1 W1 hO1 hF1 hob1; have hs9 : wb ≤ W1.heap.size := Nat.le_trans hs8 hF1.size; have rs1 := Lib.hid (rs.out.dj hF1 HRN.out.d12); have rm1 := Lib.hid (rm.out.dj hF1 HRN.out.d13); have FF1 := Lib.hid (fr_own2 ra.out HF.out (HS1.out.1) hF1); have c2 := HC2.out W1 FF1.out) | (at_builtin; refine wpList_append2 rfl _ _ rfl rfl wb _ _ rfl pc W1 rfl rs1.out rfl l2 hs9 ?_; intro z2 q2 W2 hO2 hF2 hob2; have hs10 : wb ≤ W2.heap.size := Nat.le_trans hs9 hF2.size; have rm2 := Lib.hid (rm1.out.dj hF2 HRN.out.d23); have FF2 := Lib.hid (fr_own2 rs1.out FF1.out (HS1.out.1) hF2); have c3 := HC3.out W2 FF2.out) | (at_builtin; refine wpList_append2 rfl _ _ rfl rfl wb _ _ rfl oc W2 rfl rm2.out rfl l3 hs10 ?_; intro z3 q3 W3 hO3 hF3 hob3) | fail)
              rw [List.length_map, ← HPp.out] at hO2
              rw [List.length_map, ← HO.out] at hO3
              have HRN3 := Lib.hid (RN.app (x := c) HRN.out rfl hO1 hF1 hob1 hO2 hF2 hob2 hO3 hF3 hob3)
              have FF3 := Lib.hid (fr_own2 rm2.out FF2.out (HS1.out.1) hF3)
              clear hO1 hO2 hO3 hF1 hF2 hF3 hob1 hob2 hob3 rs1 rm1 rm2 ra rs rm HRN FF1 FF2
              go_roundg (gk - 1)
              case measure => omega
              case rel => exact ⟨i + 1, K.length + 1, _, some ⟨z1, 0, none⟩, some ⟨z2, 0, none⟩, some ⟨z3, 0, none⟩, q1, q2, q3, rfl, rfl, rfl, rfl, by go_num, by omega, by omega, by simp, Lib.hid (by rw [HKY.out]; simp), Lib.hid (by rw [HKY.out]; exact HRN3.out), FF3⟩
        · obtain rfl : i = m := by omega
          have b6 : decide ((i : Int) < i) = false := by simp
          have b6' : decide (i < i) = false := by simp
          have HK := Lib.hid hK
          clear hK
          go_wp2_with fail
          go_roundg (i + 1)
          case measure => omega
          case rel =>
            obtain ⟨x1, x2, x3, x4, x5, x6⟩ := HX.out
            obtain ⟨y1, y2, y3⟩ := HRN.out.rowsV rfl
            have HRN' := HRN.out
            have hkr := keep_rem (own := own) (par := par) x6
            rw [x1, HK.out] at hkr
            refine ⟨K.length, decide (K.length < i), e1, e2, e3, f1, f2, f3, rfl, rfl, rfl, rfl, by omega, ?_, Lib.hid ⟨K, rfl, x2.trans hkr, y1, y2, y3, fun hd => ?_⟩, Lib.hid (F3.out.trans HF.out)⟩
            · by_cases hd : K.length < i
              · rw [if_pos (decide_eq_true hd)]; omega
              · rw [if_neg (by simp [hd])]; omega
            · have hd' : ¬ K.length < i := of_decide_eq_false hd
              have hkf := keep_firm (own := own) (par := par) (l := l') (by rw [x1, HK.out]; omega)
              rw [x1, HK.out] at hkf
              obtain ⟨rfl, hkf⟩ := hkf
              exact ⟨hkf, HRN'.lo HS1.out.2⟩
    | false =>
      obtain ⟨l', hl', hr', k1, k2, k3, hf⟩ := hx.out
      obtain ⟨hf1, hf2⟩ := hf rfl
      have HE := Lib.hid (show ∃ v1 v2 v3 l', Value.tuple #[.slice b1 m d1, .slice b2 m d2, .slice b3 m d3] = .tuple #[v1, v2, v3] ∧ RN w.heap.size v1 v2 v3 l' own par wr ∧ Rem own par l l' ∧ Firm own par l' ∧ Fr [] w wr from ⟨_, _, _, l', rfl, hf2, hr', hf1, F3.out⟩)
      clear hl' hr' k1 k2 k3 hf hf1 hf2 hx H0 HR0 F3
      go_wp2_with fail
      go_returns
      obtain ⟨v1, v2, v3, l', e, h1, h2, h3, h4⟩ := HE.out
      exact ⟨v1, v2, v3, l', congrArg Ending.returned e, h1, h2, h3, h4⟩
end Go.Proofs.YtellbfamofilaaaGreatDoor

/- Chains of nodes, in plain words: each node's name. -/
namespace Go.Proofs.YtellbfamofilaaaGreatDoor
set_option linter.unusedVariables false
set_option linter.unusedSimpArgs false
open Go.RowKit

/-- Each node's name: its label, and its parent's name. -/
structure NmOk (l : List Nat) (par : Nat → Nat) (B : Nat → List Nat) (nm : Nat → List (List Nat)) : Prop where
  z : nm 0 = []
  s : ∀ y ∈ l, nm y = B y :: nm (par y)
/-- A world of chains: the nodes l, by how many each is held from without (own), the names. -/
def CP (w0 : World) (q : MH) (u0 : TM) (l : List Nat) (par own : Nat → Nat) (nm : Nat → List (List Nat)) (fr : Nat) (W : World) : Prop :=
  ∃ refs B, NP w0 q u0 l par refs B fr W ∧ NmOk l par B nm ∧ (∀ y ∈ l, refs y = own y + bel par l y) ∧ Firm own par l ∧ (∀ y, y ∉ l → own y = 0)
section
variable {w0 W W' : World} {q : MH} {u0 : TM} {l : List Nat} {par refs own : Nat → Nat} {B : Nat → List Nat} {nm : Nat → List (List Nat)} {fr x p a : Nat} {b : List Nat}
theorem NP.one (h : NP w0 q u0 l par refs B fr W) {x y : Nat} (hx : x ∈ l) (hy : y ∈ l) (h1 : par x = par y) (h2 : B x = B y) : x = y := by
  obtain ⟨S, L, u, E, B0, g, ha, hrt, r, hf⟩ := h
  exact g.one x hx y hy (by rw [(r x hx).1, (r y hy).1, h1]) (by rw [(r x hx).2.2, (r y hy).2.2, h2])
theorem NmOk.ne (k : NmOk l par B nm) {y : Nat} (hy : y ∈ l) : nm y ≠ [] := by rw [k.s y hy]; exact List.cons_ne_nil _ _
theorem nm_inj (h : NP w0 q u0 l par refs B fr W) (k : NmOk l par B nm) : ∀ (n : Nat) {x y : Nat}, (nm x).length ≤ n → (x = 0 ∨ x ∈ l) → (y = 0 ∨ y ∈ l) → nm x = nm y → x = y
  | n, x, y, hn, .inl hx, .inl hy, e => hx.trans hy.symm
  | n, x, y, hn, .inl hx, .inr hy, e => absurd (e.symm.trans (hx ▸ k.z)) (k.ne hy)
  | n, x, y, hn, .inr hx, .inl hy, e => absurd (e.trans (hy ▸ k.z)) (k.ne hx)
  | 0, x, y, hn, .inr hx, .inr hy, e => absurd (List.length_eq_zero_iff.1 (Nat.le_zero.1 hn)) (k.ne hx)
  | n + 1, x, y, hn, .inr hx, .inr hy, e => by
    rw [k.s x hx] at hn
    rw [k.s x hx, k.s y hy] at e
    injection e with e1 e2
    rw [List.length_cons] at hn
    exact h.one hx hy (nm_inj h k n (by omega) (h.up hx) (h.up hy) e2) e1
theorem CP.inj (h : CP w0 q u0 l par own nm fr W) {x y : Nat} (hx : x = 0 ∨ x ∈ l) (hy : y = 0 ∨ y ∈ l) (e : nm x = nm y) : x = y := by
  obtain ⟨refs, B, h1, h2, _⟩ := h
  exact nm_inj h1 h2 _ (Nat.le_refl _) hx hy e
theorem CP.z (h : CP w0 q u0 l par own nm fr W) : nm 0 = [] := by
  obtain ⟨refs, B, h1, h2, _⟩ := h
  exact h2.z
theorem CP.ne (h : CP w0 q u0 l par own nm fr W) {y : Nat} (hy : y ∈ l) : nm y ≠ [] := by
  obtain ⟨refs, B, h1, h2, _⟩ := h
  exact h2.ne hy
theorem CP.nd (h : CP w0 q u0 l par own nm fr W) : l.Nodup := by
  obtain ⟨refs, B, h1, _⟩ := h
  exact h1.nd
theorem CP.few (h : CP w0 q u0 l par own nm fr W) : l.length ≤ 224 := by
  obtain ⟨refs, B, h1, _⟩ := h
  exact h1.few
theorem CP.rng (h : CP w0 q u0 l par own nm fr W) (hx : x ∈ l) : x ≠ 0 ∧ x < 1048576 := by
  obtain ⟨refs, B, h1, _⟩ := h
  exact h1.rng hx
theorem CP.fr0 (h : CP w0 q u0 l par own nm fr W) (hf : Fr [] W W') : CP w0 q u0 l par own nm fr W' := by
  obtain ⟨refs, B, h1, h2⟩ := h
  exact ⟨refs, B, h1.fr0 hf, h2⟩
/-- A label of a node's name. -/
theorem CP.lab (h : CP w0 q u0 l par own nm fr W) (hx : x ∈ l) : ∀ s ∈ nm x, labOk s = true ∧ s.map lowB = s := by
  obtain ⟨refs, B, h1, h2, _⟩ := h
  have : ∀ (n : Nat) {y : Nat}, (nm y).length ≤ n → (y = 0 ∨ y ∈ l) → ∀ s ∈ nm y, labOk s = true ∧ s.map lowB = s := fun n => by
    induction n with
    | zero =>
      intro y hn hy s hs
      rw [List.length_eq_zero_iff.1 (Nat.le_zero.1 hn)] at hs
      cases hs
    | succ n ih =>
      intro y hn hy s hs
      rcases hy with hy | hy
      · rw [hy, h2.z] at hs; cases hs
      · rw [h2.s y hy] at hs hn
        rcases List.mem_cons.1 hs with e | hs
        · rw [e]; exact h1.lab hy
        · exact ih (by rw [List.length_cons] at hn; omega) (h1.up hy) s hs
  exact this _ (Nat.le_refl _) (.inr hx)
theorem CP.firm (h : CP w0 q u0 l par own nm fr W) : Firm own par l := by
  obtain ⟨refs, B, h1, h2, h3, h4, h5⟩ := h
  exact h4
theorem CP.out (h : CP w0 q u0 l par own nm fr W) {y : Nat} (hy : y ∉ l) : own y = 0 := by
  obtain ⟨refs, B, h1, h2, h3, h4, h5⟩ := h
  exact h5 y hy
theorem CP.up (h : CP w0 q u0 l par own nm fr W) (hx : x ∈ l) : par x = 0 ∨ par x ∈ l := by
  obtain ⟨refs, B, h1, _⟩ := h
  exact h1.up hx
theorem Rem.gone {own par : Nat → Nat} {l m : List Nat} (h : Rem own par l m) : ∀ y ∈ l, y ∉ m → own y = 0 := by
  induction h with
  | refl => exact fun y hy hn => absurd hy hn
  | @step m x h1 h2 h3 h4 ih =>
    intro y hy hn
    by_cases hm : y ∈ m
    · by_cases e : y = x
      · rw [e]; exact h3
      · exact absurd ((List.mem_erase_of_ne e).2 hm) hn
    · exact ih y hy hm
theorem c_hold (h : CP w0 q u0 l par own nm fr W) (hx : x ∈ l) (ho : own x ≤ 4000000000) :
    Calls Tryz.prog 13 #[.pointer (some ⟨q.m, 0, none⟩), .int .i64 x] W fun e w' => e = .returned (.int .i64 0) ∧ CP w0 q u0 l par (_root_.Go.Proofs.YtellbfamofilaaaGreatDoor.up own x (own x + 1)) nm fr w' ∧ Fr q.blocks W w' := by
  obtain ⟨refs, B, h1, h2, h3, h4, h5⟩ := h
  have hr := h3 x hx
  have hb := bel_le par l x
  have hf := h1.few
  refine (p_hold h1 hx (by omega)).mono fun e w' ⟨he, g1, g2⟩ => ⟨he, ⟨_, B, g1, h2, fun y hy => ?_, fun y hy h0 => ?_, fun y hy => ?_⟩, g2⟩
  · by_cases e : y = x
    · rw [e, up_same, up_same]; omega
    · rw [up_ne _ _ e, up_ne _ _ e]; exact h3 y hy
  · by_cases e : y = x
    · rw [e, up_same] at h0; omega
    · rw [up_ne _ _ e] at h0; exact h4 y hy h0
  · rw [up_ne _ _ (fun e => hy (by rw [e]; exact hx))]; exact h5 y hy
theorem c_let (h : CP w0 q u0 l par own nm fr W) (hx : x ∈ l) (k : Nat) (ho : own x = k + 1) :
    Calls Tryz.prog 14 #[.pointer (some ⟨q.m, 0, none⟩), .int .i64 x] W fun e w' => ∃ n l1 fr1, e = .returned (.tuple #[.int .i64 (n : Nat), .int .i64 0]) ∧ Fr q.blocks W w' ∧ CP w0 q u0 l1 par (_root_.Go.Proofs.YtellbfamofilaaaGreatDoor.up own x k) nm fr1 w' ∧ Rem (_root_.Go.Proofs.YtellbfamofilaaaGreatDoor.up own x k) par l l1 ∧ n + l1.length = l.length := by
  obtain ⟨refs, B, h1, h2, h3, h4, h5⟩ := h
  refine (p_let (own := _root_.Go.Proofs.YtellbfamofilaaaGreatDoor.up own x k) h1 hx (fun y hy => ?_) (fun y hy hne h0 => ?_)).mono fun e w' ⟨n, l1, refs1, fr1, g1, g2, g3, g4, g5, g6, g7⟩ => ⟨n, l1, fr1, g1, g2, ⟨refs1, B, g3, ⟨h2.z, fun y hy => h2.s y (g4.sub.subset hy)⟩, g6, g7, fun y hy => ?_⟩, g4, g5⟩
  · by_cases e : y = x
    · subst e
      rw [up_same, if_pos rfl, h3 y hy, ho]; omega
    · rw [up_ne _ _ e, if_neg e, h3 y hy]; omega
  · rw [up_ne _ _ hne] at h0
    exact h4 y hy h0
  · by_cases hl : y ∈ l
    · exact g4.gone y hl hy
    · rw [up_ne _ _ (fun e => hl (by rw [e]; exact hx))]; exact h5 y hl
theorem c_count (h : CP w0 q u0 l par own nm fr W) : Calls Tryz.prog 18 #[.pointer (some ⟨q.m, 0, none⟩)] W fun e w' => e = .returned (.int .i64 l.length) ∧ CP w0 q u0 l par own nm fr w' ∧ Fr q.blocks W w' := by
  obtain ⟨refs, B, h1, h2⟩ := h
  exact (p_count h1).mono fun e w' ⟨he, g1, g2⟩ => ⟨he, ⟨refs, B, g1, h2⟩, g2⟩
theorem c_flt (h : CP w0 q u0 l par own nm fr W) : Calls Tryz.prog 19 #[.pointer (some ⟨q.m, 0, none⟩)] W fun e w' => e = .returned (.int .i64 0) ∧ CP w0 q u0 l par own nm fr w' ∧ Fr q.blocks W w' := by
  obtain ⟨refs, B, h1, h2⟩ := h
  exact (p_flt h1).mono fun e w' ⟨he, g1, g2⟩ => ⟨he, ⟨refs, B, g1, h2⟩, g2⟩
theorem CP.frL {base : Nat} {Bs : List Nat} (h : CP w0 q u0 l par own nm fr W) (ok : BaseOk w0 q base) (hf : Fr Bs W W') (hB : ∀ k ∈ Bs, base ≤ k) : CP w0 q u0 l par own nm fr W' := by
  obtain ⟨refs, B, h1, h2⟩ := h
  exact ⟨refs, B, h1.frL ok hf hB, h2⟩
theorem CP.bok (h : CP w0 q u0 l par own nm fr W) : BaseOk w0 q W.heap.size := by
  obtain ⟨refs, B, h1, _⟩ := h
  exact h1.bok
theorem CP.start (h : NP w0 q u0 [] par refs B fr W) : CP w0 q u0 [] par (fun _ => 0) (fun _ => []) fr W :=
  ⟨refs, B, h, ⟨rfl, fun y hy => (nomatch hy)⟩, fun y hy => (nomatch hy), fun y hy => (nomatch hy), fun _ _ => rfl⟩
theorem c_refs (h : CP w0 q u0 l par own nm fr W) (hx : x ∈ l) : Calls Tryz.prog 12 #[.pointer (some ⟨q.m, 0, none⟩), .int .i64 x] W fun e w' => e = .returned (.int .i64 (own x + bel par l x : Nat)) ∧ CP w0 q u0 l par own nm fr w' ∧ Fr q.blocks W w' := by
  obtain ⟨refs, B, h1, h2⟩ := h
  refine (p_refs h1 hx).mono fun e w' ⟨he, g1, g2⟩ => ⟨?_, ⟨refs, B, g1, h2⟩, g2⟩
  rw [he, h2.2.1 x hx]
end
end Go.Proofs.YtellbfamofilaaaGreatDoor

/- Chains: a block that was taken; it is made a node. -/
namespace Go.Proofs.YtellbfamofilaaaGreatDoor
set_option linter.unusedVariables false
set_option linter.unusedSimpArgs false
open Go.RowKit

section
variable {w0 W W' : World} {q : MH} {u0 : TM} {l : List Nat} {par refs own : Nat → Nat} {B : Nat → List Nat} {nm : Nat → List (List Nat)} {fr x p a c : Nat} {b : List Nat}
theorem CP.full7 (h : CP w0 q u0 l par own nm 0 W) : 7 ≤ l.length := by
  obtain ⟨refs, B, h1, h2⟩ := h
  exact h1.full7
/-- Behind Make: the new node is held by none yet. -/
def CPM (w0 : World) (q : MH) (u0 : TM) (l : List Nat) (par own : Nat → Nat) (nm : Nat → List (List Nat)) (p x : Nat) (W : World) : Prop :=
  ∃ refs B fr, NP w0 q u0 (l ++ [x]) par refs B fr W ∧ x ∉ l ∧ par x = p ∧ NmOk (l ++ [x]) par B nm ∧ (∀ y ∈ l ++ [x], refs y = own y + bel par (l ++ [x]) y) ∧ Firm own par l ∧ (∀ y, y ∉ l → own y = 0) ∧ ∀ y ∈ l ++ [x], par y ≠ x
theorem CPM.fr0 (h : CPM w0 q u0 l par own nm p x W) (hf : Fr [] W W') : CPM w0 q u0 l par own nm p x W' := by
  obtain ⟨refs, B, fr, h1, h2⟩ := h
  exact ⟨refs, B, fr, h1.fr0 hf, h2⟩
theorem cpm_of {refs : Nat → Nat} {s : List Nat} (hn : NP w0 q u0 (l ++ [x]) (up par x p) (refN refs x p) (up B x s) fr W) (hxl : x ∉ l) (hx0 : x ≠ 0) (hp : p = 0 ∨ p ∈ l) (hpn : ∀ y ∈ l, par y = 0 ∨ par y ∈ l)
    (h2 : NmOk l par B nm) (h3 : ∀ y ∈ l, refs y = own y + bel par l y) (h4 : Firm own par l) (h5 : ∀ y, y ∉ l → own y = 0) : CPM w0 q u0 l (up par x p) own (up nm x (s :: nm p)) p x W := by
  have hpx : p ≠ x := fun e => by
    rcases hp with k | k
    · exact hx0 (e.symm.trans k)
    · exact hxl (e ▸ k)
  have hpy : ∀ y ∈ l, par y ≠ x := fun y hy e => by
    rcases hpn y hy with k | k
    · exact hx0 (e.symm.trans k)
    · exact hxl (e ▸ k)
  refine ⟨_, _, fr, hn, hxl, up_same _ _ _, ⟨?_, fun y hy => ?_⟩, fun y hy => ?_, fun y hy h0 => ?_, h5, fun y hy => ?_⟩
  · rw [up_ne _ _ (Ne.symm hx0)]; exact h2.z
  · rcases List.mem_append.1 hy with k | k
    · have e : y ≠ x := fun e => hxl (e ▸ k)
      rw [up_ne _ _ e, up_ne _ _ e, up_ne _ _ e, up_ne _ _ (hpy y k)]
      exact h2.s y k
    · rw [List.mem_singleton] at k
      subst k
      rw [up_same, up_same, up_same, up_ne _ _ hpx]
  · have hb0 : bel (up par x p) (l ++ [x]) y = bel par l y + (if p = y then 1 else 0) := by
      rw [bel_snoc, up_same, bel_congr (fun z hz => up_ne _ _ (fun e => hxl (by rw [← e]; exact hz)))]
    rw [hb0]
    unfold refN
    by_cases e : y = x
    · subst e
      rw [if_pos rfl, if_neg hpx, h5 y hxl]
      have : bel par l y = 0 := by
        by_cases h0 : bel par l y = 0
        · exact h0
        · obtain ⟨z, hz, e⟩ := bel_pos.1 h0
          exact absurd e (hpy z hz)
      omega
    · rw [if_neg e]
      rcases List.mem_append.1 hy with k | k
      · rw [h3 y k]
        by_cases ep : y = p
        · rw [if_pos ep, if_pos ep.symm]; omega
        · rw [if_neg ep, if_neg (fun k => ep k.symm)]; omega
      · exact absurd (List.mem_singleton.1 k) e
  · obtain ⟨z, hz, e⟩ := h4 y hy h0
    exact ⟨z, hz, by rw [up_ne _ _ (fun k => hxl (by rw [← k]; exact hz))]; exact e⟩
  · rcases List.mem_append.1 hy with k | k
    · rw [up_ne _ _ (fun e => hxl (by rw [← e]; exact k))]; exact hpy y k
    · rw [List.mem_singleton] at k
      subst k
      rw [up_same]; exact hpx
theorem c_made (h : CP w0 q u0 l par own nm fr W) (hp : p = 0 ∨ p ∈ l) (hb : ∀ k ∈ b, k < 256) (ho : p ≠ 0 → own p ≤ 4000000000) :
    Calls Tryz.prog 15 #[.pointer (some ⟨q.m, 0, none⟩), .int .i64 p, .string (strOf b)] W fun e w' => ∃ x : Nat, e = .returned (.int .i64 x) ∧ x < 1048576 ∧ Fr q.blocks W w' ∧ ((x = 0 ∧ ∃ fr1, CP w0 q u0 l par own nm fr1 w') ∨ (x ≠ 0 ∧ CPM w0 q u0 l (up par x p) own (up nm x (b.map lowB :: nm p)) p x w')) := by
  obtain ⟨refs, B, h1, h2, h3, h4, h5⟩ := h
  have hfw := h1.few
  refine (p_made h1 hp hb (fun h0 => by
    have := h3 p (hp.resolve_left h0)
    have := bel_le par l p
    have := ho h0
    omega)).mono fun e w' ⟨x, k1, k2, k3, k4⟩ => ⟨x, k1, k2, k3, ?_⟩
  rcases k4 with ⟨kx, fr1, kn, _⟩ | ⟨kx, kxl, _, _, fr1, kn⟩
  · exact .inl ⟨kx, fr1, refs, B, kn, h2, h3, h4, h5⟩
  · exact .inr ⟨kx, cpm_of kn kxl kx hp (fun y hy => h1.up hy) h2 h3 h4 h5⟩
/-- The new node is held. -/
theorem c_held (h : CPM w0 q u0 l par own nm p x W) :
    Calls Tryz.prog 13 #[.pointer (some ⟨q.m, 0, none⟩), .int .i64 x] W fun e w' => e = .returned (.int .i64 0) ∧ Fr q.blocks W w' ∧ ∃ fr, CP w0 q u0 (l ++ [x]) par (up own x 1) nm fr w' := by
  obtain ⟨refs, B, fr, h1, hx, hpx, h2, h3, h4, h5, h6⟩ := h
  have hxm : x ∈ l ++ [x] := List.mem_append_right _ (List.mem_singleton.2 rfl)
  have hox := h5 x hx
  have hbx : bel par (l ++ [x]) x = 0 := by
    by_cases h0 : bel par (l ++ [x]) x = 0
    · exact h0
    · obtain ⟨z, hz, e⟩ := bel_pos.1 h0
      exact absurd e (h6 z hz)
  have hr := h3 x hxm
  refine (p_hold h1 hxm (by omega)).mono fun e w' ⟨he, g1, g2⟩ => ⟨he, g2, fr, _, B, g1, h2, fun y hy => ?_, fun y hy h0 => ?_, fun y hy => ?_⟩
  · by_cases e : y = x
    · subst e; rw [up_same, up_same]; omega
    · rw [up_ne _ _ e, up_ne _ _ e]; exact h3 y hy
  · by_cases e : y = x
    · subst e; rw [up_same] at h0; omega
    · rw [up_ne _ _ e] at h0
      rcases List.mem_append.1 hy with k | k
      · obtain ⟨z, hz, e⟩ := h4 y k h0
        exact ⟨z, List.mem_append_left _ hz, e⟩
      · exact absurd (List.mem_singleton.1 k) e
  · rw [up_ne _ _ (fun e => hy (by rw [e]; exact hxm))]
    exact h5 y (fun k => hy (List.mem_append_left _ k))
end
end Go.Proofs.YtellbfamofilaaaGreatDoor
