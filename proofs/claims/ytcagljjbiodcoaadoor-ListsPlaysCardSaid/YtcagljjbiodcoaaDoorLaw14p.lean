/- Layer 14: a memory with lists beside the document's: each call on each. -/
import Derived.Test.YtcagljjbiodcoaaDoorLaw14a
import Derived.Test.YtcagljjbiodcoaaDoorGE
namespace Go.Proofs.YtcagljjbiodcoaaDoor
set_option linter.unusedVariables false
open Go.RowKit

abbrev HH := Nat → Nat × Nat × Nat
theorem liset (w : World) (q : MH) (t : TM) (h : IsT w q t) (x c l : Int) (f : Nat) (hf : f < 4294967296) :
    Calls Tryd.prog 83 #[.pointer (some ⟨q.m, 0, none⟩), .int .i64 x, .int .i64 c, .int .i64 l, .int .u32 f] w fun e w' => e = .returned (.int .i64 (setE t.a x c l)) ∧ IsT w' q (if setE t.a x c l = 0 then t.setL x.toNat c.toNat l.toNat f else t) ∧ Fr q.blocks w w' := by
  by_cases hx : 0 ≤ x ∧ x < (t.a : Int)
  · obtain ⟨x, rfl⟩ : ∃ y : Nat, x = y := ⟨x.toNat, by omega⟩
    by_cases hb : c < 0 ∨ 9 < c ∨ l < 0 ∨ 65535 < l
    · have hE : setE t.a x c l = 2 := by unfold setE; rw [if_neg (fun k => k hx), if_pos hb]
      rw [hE, if_neg (by decide)]
      exact (liset_arg h x c l f (by omega) hb).mono fun e w' ⟨he, hf⟩ => ⟨he, h.fr0 hf, hf.nil⟩
    · obtain ⟨c, rfl⟩ : ∃ y : Nat, c = y := ⟨c.toNat, by omega⟩
      obtain ⟨l, rfl⟩ : ∃ y : Nat, l = y := ⟨l.toNat, by omega⟩
      have hE : setE t.a x c l = 0 := by unfold setE; rw [if_neg (fun k => k hx), if_neg hb]
      rw [hE, if_pos rfl]
      simp only [Int.toNat_natCast]
      exact liset_yes h x c l f (by omega) (by omega) (by omega) hf
  · have hE : setE t.a x c l = 6 := by unfold setE; rw [if_pos hx]
    rw [hE, if_neg (by decide)]
    exact (liset_range h x c l f hx).mono fun e w' ⟨he, hf⟩ => ⟨he, h.fr0 hf, hf.nil⟩
def HdIs (t : TM) (hh : HH) : Prop := ∀ x, x < t.a → t.hd x 0 = (hh x).1 ∧ t.hd x 1 = (hh x).2.1 ∧ t.hd x 2 = (hh x).2.2
theorem HdIs.lis {t u : TM} {hh : HH} (h : HdIs t hh) (k : Lis t u) : HdIs u hh := fun x hx => by
  rw [k.a] at hx
  rw [k.hd x 0 (by decide) (by decide), k.hd x 1 (by decide) (by decide), k.hd x 2 (by decide) (by decide)]
  exact h x hx
theorem setL_34 (t : TM) (x c l f y r : Nat) (h : r = 3 ∨ r = 4) : (t.setL x c l f).hd y r = t.hd y r := by
  unfold TM.setL
  rw [TM.setHd_hd, if_neg (by omega), TM.setHd_hd, if_neg (by omega), TM.setHd_hd, if_neg (by omega)]
theorem setL_ls {t : TM} {inn : Nat → Int} (h : LS t inn) (x c l f : Nat) : LS (t.setL x c l f) inn := by
  refine ⟨fun d hd => ?_, fun y hy hn => ?_, h.le⟩
  · show Lk (t.setL x c l f) 0 (t.rt (3 + d)) (lst t.a inn d)
    exact Lk.same (t := t) (u := t.setL x c l f) rfl (h.ln d hd) (fun y hy => ⟨setL_34 _ _ _ _ _ _ _ (.inl rfl), setL_34 _ _ _ _ _ _ _ (.inr rfl)⟩)
  · rw [setL_34 _ _ _ _ _ _ _ (.inl rfl), setL_34 _ _ _ _ _ _ _ (.inr rfl)]
    exact h.out y hy hn
theorem setL_hd {t : TM} {hh : HH} (h : HdIs t hh) (x c l f : Nat) : HdIs (t.setL x c l f) (up hh x (c, l, f)) := fun y hy => by
  have := h y hy
  unfold TM.setL
  rw [TM.setHd_hd, TM.setHd_hd, TM.setHd_hd, TM.setHd_hd, TM.setHd_hd, TM.setHd_hd, TM.setHd_hd, TM.setHd_hd, TM.setHd_hd]
  by_cases e : y = x
  · subst e
    rw [up_same]
    simp
  · rw [up_ne _ _ e]
    simp [e]
    exact this
theorem beg_hd {t : TM} : HdIs (t.beg t.a) (fun _ => (0, 0, 0)) := fun x hx => by
  have hx' : x < t.a := by rw [beg_a] at hx; exact hx
  have k := lis_beg t t.a
  rw [k.hd x 0 (by decide) (by decide), k.hd x 1 (by decide) (by decide), k.hd x 2 (by decide) (by decide)]
  have : ∀ r, t.zHd.hd x r = 0 := fun r => if_pos hx'
  rw [this, this, this]
  exact ⟨rfl, rfl, rfl⟩

/-- A memory with lists and the document's, made since w0, beside blocks that stay. -/
structure K14 (w0 : World) (q : MH) (p a : Nat) (ex : List (Nat × TypeId × Array Value)) (iT : Nat → Int) (hT : HH) (iR : Nat → Int) (hR : HH) (W : World) : Prop where
  x : ∃ t gh gi, IsT W q t ∧ LS t iT ∧ t.a = a ∧ t.ft = 0 ∧ HdIs t hT ∧ IsR W p gh gi a hR iR ∧ (p ∉ q.blocks ∧ gh ∉ q.blocks ∧ gi ∉ q.blocks) ∧ (w0.heap.size ≤ gh ∧ w0.heap.size ≤ gi) ∧ ∀ b ∈ ex, b.1 ≠ gh ∧ b.1 ≠ gi
  f : Fr [] w0 W
  hq : ∀ k ∈ q.blocks, w0.heap.size ≤ k
  hp : w0.heap.size ≤ p
  hg : 6 ≤ w0.heap.size
  ex : ∀ b ∈ ex, Blk W b.1 b.2.1 b.2.2 ∧ b.1 ∉ q.blocks ∧ b.1 ≠ p
section
variable {w0 W : World} {q : MH} {p a : Nat} {ex : List (Nat × TypeId × Array Value)} {iT iR : Nat → Int} {hT hR : HH}
theorem K14.fr0 {W' : World} (h : K14 w0 q p a ex iT hT iR hR W) (hf : Fr [] W W') : K14 w0 q p a ex iT hT iR hR W' := by
  obtain ⟨t, gh, gi, h1, h2, h3, h4, h5, h6, h7, h8, h9⟩ := h.x
  exact ⟨⟨t, gh, gi, h1.fr0 hf, h2, h3, h4, h5, h6.fr0 hf, h7, h8, h9⟩, h.f.trans hf, h.hq, h.hp, h.hg, fun b hb => ⟨(h.ex b hb).1.fr hf (by simp), (h.ex b hb).2⟩⟩
theorem K14.alloc (h : K14 w0 q p a ex iT hT iR hR W) (o : Obj) : K14 w0 q p a ex iT hT iR hR (W.alloc o) := h.fr0 ((Fr.refl [] W).alloc o)
theorem K14.drew (h : K14 w0 q p a ex iT hT iR hR W) : K14 w0 q p a ex iT hT iR hR W.drew := h.fr0 (Fr.refl [] W).drew
theorem K14.drewN (h : K14 w0 q p a ex iT hT iR hR W) (n : Nat) : K14 w0 q p a ex iT hT iR hR (W.drewN n) := h.fr0 ((Fr.refl [] W).drewN n)
theorem K14.box (h : K14 w0 q p a ex iT hT iR hR W) (t : TypeId) (cs : Array Value) : K14 w0 q p a ((W.heap.size, t, cs) :: ex) iT hT iR hR (W.alloc (.cells cs t)) := by
  have h' := h.alloc (.cells cs t)
  obtain ⟨t0, gh, gi, h1, h2, h3, h4, h5, h6, h7, h8, h9⟩ := h.x
  refine ⟨⟨t0, gh, gi, h1.alloc _, h2, h3, h4, h5, h6.alloc _, h7, h8, fun b hb => ?_⟩, h'.f, h'.hq, h'.hp, h'.hg, fun b hb => ?_⟩
  · rcases List.mem_cons.1 hb with rfl | hb
    · have := h6.H.lt; have := h6.I.lt
      exact ⟨by simp; omega, by simp; omega⟩
    · exact h9 b hb
  · rcases List.mem_cons.1 hb with rfl | hb
    · have := h6.st.lt
      exact ⟨Blk.new _ _ _, fun hm => by have := h1.lt _ hm; simp at this, by simp; omega⟩
    · exact h'.ex b hb
theorem K14.weak {b : Nat × TypeId × Array Value} (h : K14 w0 q p a (b :: ex) iT hT iR hR W) : K14 w0 q p a ex iT hT iR hR W := by
  obtain ⟨t, gh, gi, h1, h2, h3, h4, h5, h6, h7, h8, h9⟩ := h.x
  exact ⟨⟨t, gh, gi, h1, h2, h3, h4, h5, h6, h7, h8, fun b hb => h9 b (List.mem_cons_of_mem _ hb)⟩, h.f, h.hq, h.hp, h.hg, fun b hb => h.ex b (List.mem_cons_of_mem _ hb)⟩
/-- The memory alone turned. -/
theorem K14.mem {W' : World} (h : K14 w0 q p a ex iT hT iR hR W) {iT' : Nat → Int} {hT' : HH} (hf : Fr q.blocks W W') (hx : ∀ t, IsT W q t → LS t iT → t.a = a → t.ft = 0 → HdIs t hT → ∃ t', IsT W' q t' ∧ LS t' iT' ∧ t'.a = a ∧ t'.ft = 0 ∧ HdIs t' hT') : K14 w0 q p a ex iT' hT' iR hR W' := by
  obtain ⟨t, gh, gi, h1, h2, h3, h4, h5, h6, h7, h8, h9⟩ := h.x
  obtain ⟨t', k1, k2, k3, k4, k5⟩ := hx t h1 h2 h3 h4 h5
  exact ⟨⟨t', gh, gi, k1, k2, k3, k4, k5, h6.fr hf h7.1 h7.2.1 h7.2.2, h7, h8, h9⟩, h.f.step hf (fun k hk => .inr (h.hq k hk)), h.hq, h.hp, h.hg, fun b hb => ⟨(h.ex b hb).1.fr hf (h.ex b hb).2.1, (h.ex b hb).2⟩⟩
theorem k_ins (h : K14 w0 q p a ex iT hT iR hR W) (c x : Int) : Calls Tryd.prog 33 #[.pointer (some ⟨q.m, 0, none⟩), .int .i64 c, .int .i64 x] W fun e w' => e = .returned (.int .i64 (insE a iT c x)) ∧ K14 w0 q p a ex (insI a iT c x) hT iR hR w' := by
  obtain ⟨t, gh, gi, h1, h2, h3, h4, h5, h6, h7, h8, h9⟩ := h.x
  have := liins h1 h2 c x
  rw [h3] at this
  refine this.mono fun e w' ⟨he, t', k1, k2, k3, k4⟩ => ⟨he, ?_⟩
  refine ⟨⟨t', gh, gi, k1, k2, k3.a.trans h3, k3.ft.trans h4, h5.lis k3, h6.fr k4 h7.1 h7.2.1 h7.2.2, h7, h8, h9⟩, h.f.step k4 (fun k hk => .inr (h.hq k hk)), h.hq, h.hp, h.hg, fun b hb => ⟨(h.ex b hb).1.fr k4 (h.ex b hb).2.1, (h.ex b hb).2⟩⟩
theorem k_rem (h : K14 w0 q p a ex iT hT iR hR W) (c x : Int) : Calls Tryd.prog 34 #[.pointer (some ⟨q.m, 0, none⟩), .int .i64 c, .int .i64 x] W fun e w' => e = .returned (.int .i64 (remE a iT c x)) ∧ K14 w0 q p a ex (remI a iT c x) hT iR hR w' := by
  obtain ⟨t, gh, gi, h1, h2, h3, h4, h5, h6, h7, h8, h9⟩ := h.x
  have := lirem h1 h2 c x
  rw [h3] at this
  refine this.mono fun e w' ⟨he, t', k1, k2, k3, k4⟩ => ⟨he, ?_⟩
  refine ⟨⟨t', gh, gi, k1, k2, k3.a.trans h3, k3.ft.trans h4, h5.lis k3, h6.fr k4 h7.1 h7.2.1 h7.2.2, h7, h8, h9⟩, h.f.step k4 (fun k hk => .inr (h.hq k hk)), h.hq, h.hp, h.hg, fun b hb => ⟨(h.ex b hb).1.fr k4 (h.ex b hb).2.1, (h.ex b hb).2⟩⟩
theorem k_set (h : K14 w0 q p a ex iT hT iR hR W) (x c l : Int) (f : Nat) (hf : f < 4294967296) : Calls Tryd.prog 83 #[.pointer (some ⟨q.m, 0, none⟩), .int .i64 x, .int .i64 c, .int .i64 l, .int .u32 f] W fun e w' => e = .returned (.int .i64 (setE a x c l)) ∧ K14 w0 q p a ex iT (setH a hT x c l f) iR hR w' := by
  obtain ⟨t, gh, gi, h1, h2, h3, h4, h5, h6, h7, h8, h9⟩ := h.x
  have := liset W q t h1 x c l f hf
  rw [h3] at this
  refine this.mono fun e w' ⟨he, k1, k4⟩ => ⟨he, ?_⟩
  refine ⟨⟨_, gh, gi, k1, ?_, ?_, ?_, ?_, h6.fr k4 h7.1 h7.2.1 h7.2.2, h7, h8, h9⟩, h.f.step k4 (fun k hk => .inr (h.hq k hk)), h.hq, h.hp, h.hg, fun b hb => ⟨(h.ex b hb).1.fr k4 (h.ex b hb).2.1, (h.ex b hb).2⟩⟩
  · split
    · exact setL_ls h2 _ _ _ _
    · exact h2
  · split
    · exact h3
    · exact h3
  · split
    · exact h4
    · exact h4
  · unfold setH
    split
    · exact setL_hd h5 _ _ _ _
    · exact h5
theorem k_beg (h : K14 w0 q p a ex iT hT iR hR W) : Calls Tryd.prog 32 #[.pointer (some ⟨q.m, 0, none⟩)] W fun e w' => e = .returned (.int .i64 0) ∧ K14 w0 q p a ex (fun _ => 0) (fun _ => (0, 0, 0)) iR hR w' := by
  obtain ⟨t, gh, gi, h1, h2, h3, h4, h5, h6, h7, h8, h9⟩ := h.x
  refine (libegin h1).mono fun e w' ⟨he, k1, k4⟩ => ⟨he, ?_⟩
  have hz : t.zHd.ft = t.ft := rfl
  refine ⟨⟨_, gh, gi, k1, (beg_LS t t.a (Nat.le_refl _)).congr (fun x hx => ?_), (beg_a _ _).trans h3, ((lis_beg t t.a).ft.trans hz).trans h4, beg_hd, h6.fr k4 h7.1 h7.2.1 h7.2.2, h7, h8, h9⟩, h.f.step k4 (fun k hk => .inr (h.hq k hk)), h.hq, h.hp, h.hg, fun b hb => ⟨(h.ex b hb).1.fr k4 (h.ex b hb).2.1, (h.ex b hb).2⟩⟩
  unfold innB
  rw [if_pos (by omega)]
theorem K14.ri {W' : World} (h : K14 w0 q p a ex iT hT iR hR W) {gi : Nat} {iR' : Nat → Int} {hR' : HH} (hgi : w0.heap.size ≤ gi) (hn : gi ∉ q.blocks) (hnp : gi ≠ p) (hex : ∀ b ∈ ex, b.1 ≠ gi) (hf : Fr [gi] W W') (hx : ∃ t gh gi, IsT W q t ∧ LS t iT ∧ t.a = a ∧ t.ft = 0 ∧ HdIs t hT ∧ IsR W' p gh gi a hR' iR' ∧ (p ∉ q.blocks ∧ gh ∉ q.blocks ∧ gi ∉ q.blocks) ∧ (w0.heap.size ≤ gh ∧ w0.heap.size ≤ gi) ∧ ∀ b ∈ ex, b.1 ≠ gh ∧ b.1 ≠ gi) : K14 w0 q p a ex iT hT iR' hR' W' := by
  obtain ⟨t, gh0, gi0, h1, h2, h3, h4, h5, h6, h7, h8, h9⟩ := hx
  have hg := h.hg
  refine ⟨⟨t, gh0, gi0, h1.fr hf (fun k hk hm => by simp at hm; subst hm; exact hn hk) (fun k hk hm => by simp at hm; omega), h2, h3, h4, h5, h6, h7, h8, h9⟩, h.f.step hf (fun k hk => .inr (by simp at hk; omega)), h.hq, h.hp, h.hg, fun b hb => ⟨(h.ex b hb).1.fr hf (by have := hex b hb; simpa using this), (h.ex b hb).2⟩⟩
theorem r_ins (h : K14 w0 q p a ex iT hT iR hR W) (c x : Int) : Calls Tryd.prog 85 #[.pointer (some ⟨p, 0, none⟩), .int .i64 c, .int .i64 x] W fun e w' => e = .returned (.int .i64 (insE a iR c x)) ∧ K14 w0 q p a ex iT hT (insI a iR c x) hR w' := by
  obtain ⟨t, gh, gi, h1, h2, h3, h4, h5, h6, h7, h8, h9⟩ := h.x
  exact (r14ins h6 c x).mono fun e w' ⟨he, k1, k4⟩ => ⟨he, h.ri h8.2 h7.2.2 (fun e => h6.nes.2.1 e.symm) (fun b hb => (h9 b hb).2) k4 ⟨t, gh, gi, h1, h2, h3, h4, h5, k1, h7, h8, h9⟩⟩
theorem r_rem (h : K14 w0 q p a ex iT hT iR hR W) (c x : Int) : Calls Tryd.prog 82 #[.pointer (some ⟨p, 0, none⟩), .int .i64 c, .int .i64 x] W fun e w' => e = .returned (.int .i64 (remE a iR c x)) ∧ K14 w0 q p a ex iT hT (remI a iR c x) hR w' := by
  obtain ⟨t, gh, gi, h1, h2, h3, h4, h5, h6, h7, h8, h9⟩ := h.x
  exact (r14rem h6 c x).mono fun e w' ⟨he, k1, k4⟩ => ⟨he, h.ri h8.2 h7.2.2 (fun e => h6.nes.2.1 e.symm) (fun b hb => (h9 b hb).2) k4 ⟨t, gh, gi, h1, h2, h3, h4, h5, k1, h7, h8, h9⟩⟩
theorem r_set (h : K14 w0 q p a ex iT hT iR hR W) (x c l : Int) (f : Nat) : Calls Tryd.prog 84 #[.pointer (some ⟨p, 0, none⟩), .int .i64 x, .int .i64 c, .int .i64 l, .int .u32 f] W fun e w' => e = .returned (.int .i64 (setE a x c l)) ∧ K14 w0 q p a ex iT hT iR (setH a hR x c l f) w' := by
  obtain ⟨t, gh, gi, h1, h2, h3, h4, h5, h6, h7, h8, h9⟩ := h.x
  exact (r14set h6 x c l f).mono fun e w' ⟨he, k1, k4⟩ => ⟨he, h.ri h8.1 h7.2.1 (fun e => h6.nes.1 e.symm) (fun b hb => (h9 b hb).1) k4 ⟨t, gh, gi, h1, h2, h3, h4, h5, k1, h7, h8, h9⟩⟩

/-- What both get. -/
def getV (a : Nat) (hh : HH) (inn : Nat → Int) (x : Int) : Value := if 0 ≤ x ∧ x < a then slabV (hh x.toNat).1 (hh x.toNat).2.1 (hh x.toNat).2.2 (nxR a inn x.toNat) (pvR inn x.toNat) else slabV 0 0 0 0 0
def getE (a : Nat) (x : Int) : Int := if 0 ≤ x ∧ x < a then 0 else 6
theorem k_get (h : K14 w0 q p a ex iT hT iR hR W) (x : Int) : Calls Tryd.prog 40 #[.pointer (some ⟨q.m, 0, none⟩), .int .i64 x] W fun e w' => e = .returned (.tuple #[getV a hT iT x, .int .i64 (getE a x)]) ∧ K14 w0 q p a ex iT hT iR hR w' := by
  obtain ⟨t, gh, gi, h1, h2, h3, h4, h5, h6, h7, h8, h9⟩ := h.x
  unfold getV getE
  by_cases hx : 0 ≤ x ∧ x < (a : Int)
  · rw [if_pos hx, if_pos hx]
    obtain ⟨x, rfl⟩ : ∃ y : Nat, x = y := ⟨x.toNat, by omega⟩
    have hxa : x < t.a := by omega
    have := liget_yes h1 x hxa
    obtain ⟨e0, e1, e2⟩ := h5 x hxa
    obtain ⟨e3, e4⟩ := h2.links hxa
    rw [e0, e1, e2, e3, e4, h3] at this
    rw [Int.toNat_natCast]
    exact this.mono fun e w' ⟨he, k1, k4⟩ => ⟨he, ⟨⟨t, gh, gi, k1, h2, h3, h4, h5, h6.fr k4 h7.1 h7.2.1 h7.2.2, h7, h8, h9⟩, h.f.step k4 (fun k hk => .inr (h.hq k hk)), h.hq, h.hp, h.hg, fun b hb => ⟨(h.ex b hb).1.fr k4 (h.ex b hb).2.1, (h.ex b hb).2⟩⟩⟩
  · rw [if_neg hx, if_neg hx]
    exact (liget_no h1 x (by rw [h3]; exact hx)).mono fun e w' ⟨he, k4⟩ => ⟨he, h.fr0 k4⟩
theorem r_get (h : K14 w0 q p a ex iT hT iR hR W) (x : Int) : Calls Tryd.prog 41 #[.pointer (some ⟨p, 0, none⟩), .int .i64 x] W fun e w' => e = .returned (.tuple #[getV a hR iR x, .int .i64 (getE a x)]) ∧ K14 w0 q p a ex iT hT iR hR w' ∧ Fr [] W w' := by
  obtain ⟨t, gh, gi, h1, h2, h3, h4, h5, h6, h7, h8, h9⟩ := h.x
  unfold getV getE
  by_cases hx : 0 ≤ x ∧ x < (a : Int)
  · rw [if_pos hx, if_pos hx]
    obtain ⟨x, rfl⟩ : ∃ y : Nat, x = y := ⟨x.toNat, by omega⟩
    rw [Int.toNat_natCast]
    exact (r14get_yes h6 x (by omega)).mono fun e w' ⟨he, k4⟩ => ⟨he, h.fr0 k4, k4⟩
  · rw [if_neg hx, if_neg hx]
    exact (r14get_no h6 x hx).mono fun e w' ⟨he, k4⟩ => ⟨he, h.fr0 k4, k4⟩
theorem k_fst (h : K14 w0 q p a ex iT hT iR hR W) (c : Int) : Calls Tryd.prog 36 #[.pointer (some ⟨q.m, 0, none⟩), .int .i64 c] W fun e w' => e = .returned (.int .i64 (firstA a iT c)) ∧ K14 w0 q p a ex iT hT iR hR w' := by
  obtain ⟨t, gh, gi, h1, h2, h3, h4, h5, h6, h7, h8, h9⟩ := h.x
  have := lifst h1 h2 c
  rw [firstA_eq, h3] at this
  exact this.mono fun e w' ⟨he, k1, k4⟩ => ⟨he, ⟨⟨t, gh, gi, k1, h2, h3, h4, h5, h6.fr k4 h7.1 h7.2.1 h7.2.2, h7, h8, h9⟩, h.f.step k4 (fun k hk => .inr (h.hq k hk)), h.hq, h.hp, h.hg, fun b hb => ⟨(h.ex b hb).1.fr k4 (h.ex b hb).2.1, (h.ex b hb).2⟩⟩⟩
theorem r_fst (h : K14 w0 q p a ex iT hT iR hR W) (c : Int) : Calls Tryd.prog 42 #[.pointer (some ⟨p, 0, none⟩), .int .i64 c] W fun e w' => e = .returned (.int .i64 (firstA a iR c)) ∧ K14 w0 q p a ex iT hT iR hR w' := by
  obtain ⟨t, gh, gi, h1, h2, h3, h4, h5, h6, h7, h8, h9⟩ := h.x
  exact (r14first h6 c).mono fun e w' ⟨he, k4⟩ => ⟨he, h.fr0 k4⟩
theorem k_all (h : K14 w0 q p a ex iT hT iR hR W) (c : Int) : Calls Tryd.prog 35 #[.pointer (some ⟨q.m, 0, none⟩), .int .i64 c] W fun e w' => ∃ ad cap, e = .returned (.slice ad (lstI a iT c).length cap) ∧ RowV w' W.heap.size ad cap (lstI a iT c) ∧ K14 w0 q p a ex iT hT iR hR w' := by
  obtain ⟨t, gh, gi, h1, h2, h3, h4, h5, h6, h7, h8, h9⟩ := h.x
  have := liall h1 h2 c
  rw [h3] at this
  refine this.mono fun e w' ⟨v, he, hv, k1, k4⟩ => ?_
  obtain ⟨ad, cap, rfl, hr⟩ := own_row hv
  exact ⟨ad, cap, he, hr, ⟨⟨t, gh, gi, k1, h2, h3, h4, h5, h6.fr k4 h7.1 h7.2.1 h7.2.2, h7, h8, h9⟩, h.f.step k4 (fun k hk => .inr (h.hq k hk)), h.hq, h.hp, h.hg, fun b hb => ⟨(h.ex b hb).1.fr k4 (h.ex b hb).2.1, (h.ex b hb).2⟩⟩⟩
theorem r_all (h : K14 w0 q p a ex iT hT iR hR W) (c : Int) : Calls Tryd.prog 44 #[.pointer (some ⟨p, 0, none⟩), .int .i64 c] W fun e w' => ∃ ad cap, e = .returned (.slice ad (lstI a iR c).length cap) ∧ RowV w' W.heap.size ad cap (lstI a iR c) ∧ K14 w0 q p a ex iT hT iR hR w' ∧ Fr [] W w' := by
  obtain ⟨t, gh, gi, h1, h2, h3, h4, h5, h6, h7, h8, h9⟩ := h.x
  refine (r14all h6 c).mono fun e w' ⟨v, he, hv, k4⟩ => ?_
  obtain ⟨ad, cap, rfl, hr⟩ := own_row hv
  exact ⟨ad, cap, he, hr, h.fr0 k4, k4⟩
theorem k_flt (h : K14 w0 q p a ex iT hT iR hR W) : Calls Tryd.prog 22 #[.pointer (some ⟨q.m, 0, none⟩)] W fun e w' => e = .returned (.int .i64 0) ∧ Fr [] w0 w' := by
  obtain ⟨t, gh, gi, h1, h2, h3, h4, h5, h6, h7, h8, h9⟩ := h.x
  have := tfaults h1
  rw [h4] at this
  exact this.mono fun e w' ⟨he, k4⟩ => ⟨he, h.f.trans k4⟩
end
end Go.Proofs.YtcagljjbiodcoaaDoor
