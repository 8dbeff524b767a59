/- Several texts in one. -/
import Derived.Test.YtkapkbiccppldaaGreatDoorKB
import Derived.Test.YtkapkbiccppldaaGreatDoorKC
import Derived.Test.YtkapkbiccppldaaGreatDoorKD
/- The ring's page: the memory and the document's ring together. -/
namespace Go.Proofs.YtkapkbiccppldaaGreatDoor
set_option linter.unusedVariables false
set_option linter.unusedSimpArgs false
open Go.RowKit

/-- Both: of X and R live blocks; the ring R, b; the document's R2, b2. -/
structure K7 (w0 : World) (q : MH) (p : Nat) (X R : List Nat) (b : Nat) (R2 : List Nat) (b2 : Nat) (W : World) : Prop where
  m : ∃ S f, GX w0 q S R b f W ∧ ∀ y, LvP S y ↔ y ∈ X ∨ y ∈ R
  r : IsGx W p R2 b2
  hp : w0.heap.size ≤ p
  hq : ∀ k ∈ q.blocks, k < p
  g : 5 ≤ p
section
variable {w0 W W' : World} {q : MH} {p b b2 x n : Nat} {X R R2 A B : List Nat}
theorem K7.mem {X' R' : List Nat} {b' : Nat} (h : K7 w0 q p X R b R2 b2 W) (hm : ∃ S f, GX w0 q S R' b' f W' ∧ ∀ y, LvP S y ↔ y ∈ X' ∨ y ∈ R') (hf : Fr q.blocks W W') : K7 w0 q p X' R' b' R2 b2 W' :=
  ⟨hm, h.r.fr hf h.hq, h.hp, h.hq, h.g⟩
theorem GX.frp {S : SS} {ft : Int} (h : GX w0 q S R b ft W) (hf : Fr [p] W W') (hp : w0.heap.size ≤ p) (hq : ∀ k ∈ q.blocks, k < p) (hg : 5 ≤ p) : GX w0 q S R b ft W' := by
  obtain ⟨u, E, g, e⟩ := h
  refine ⟨u, E, ⟨⟨g.h.m.fr hf (fun k hk hm => ?_) (fun k hk hm => ?_), g.h.tabs.fr hf (fun k hk => ?_), g.h.hi⟩, g.sl, g.rg, g.a, g.s, g.f.step hf (fun k hk => .inr ?_), g.hq⟩, e⟩
  · simp at hm; subst hm; exact Nat.lt_irrefl _ (hq _ hk)
  · simp at hm; subst hm; omega
  · simp at hk; subst hk; omega
  · simp at hk; omega
theorem K7.ref {R3 : List Nat} {b3 : Nat} (h : K7 w0 q p X R b R2 b2 W) (hr : IsGx W' p R3 b3) (hf : Fr [p] W W') : K7 w0 q p X R b R3 b3 W' := by
  obtain ⟨S, f, g, hl⟩ := h.m
  exact ⟨⟨S, f, g.frp hf h.hp h.hq h.g, hl⟩, hr, h.hp, h.hq, h.g⟩
theorem K7.fr0 (h : K7 w0 q p X R b R2 b2 W) (hf : Fr [] W W') : K7 w0 q p X R b R2 b2 W' := by
  obtain ⟨S, f, g, hl⟩ := h.m
  exact ⟨⟨S, f, g.fr0 hf, hl⟩, h.r.fr0 hf, h.hp, h.hq, h.g⟩
theorem K7.nd (h : K7 w0 q p X R b R2 b2 W) : R.Nodup := by
  obtain ⟨S, f, g, hl⟩ := h.m
  exact g.nd
theorem K7.f (h : K7 w0 q p X R b R2 b2 W) : Fr [] w0 W := by
  obtain ⟨S, f, g, hl⟩ := h.m
  exact g.f
theorem K7.pos (h : K7 w0 q p X R b R2 b2 W) (hx : x ∈ R) : 0 < x ∧ x < 1048576 := by
  obtain ⟨S, f, g, hl⟩ := h.m
  exact g.pos hx
theorem K7.bin (h : K7 w0 q p X R b R2 b2 W) (h0 : R ≠ []) : b ∈ R := by
  obtain ⟨S, f, ⟨u, E, g, _⟩, hl⟩ := h.m
  exact g.rg.bin h0
theorem K7.bnil (h : K7 w0 q p X R b R2 b2 W) (h0 : R = []) : b = 0 := by
  obtain ⟨S, f, ⟨u, E, g, _⟩, hl⟩ := h.m
  exact g.rg.bnil h0
theorem nd_mid (h : (A ++ x :: B).Nodup) : x ∉ A ∧ x ∉ A ++ B := by
  have hA : x ∉ A := fun m => (List.nodup_append.1 h).2.2 x m x (List.mem_cons_self ..) rfl
  have hB := (List.nodup_cons.1 (List.nodup_append.1 h).2.1).1
  exact ⟨hA, fun m => (List.mem_append.1 m).elim hA hB⟩
theorem k_rem (h : K7 w0 q p [] (A ++ x :: B) b R2 b2 W) : Calls Tryz.prog 47 #[.pointer (some ⟨q.m, 0, none⟩), .int .i64 x] W fun e w' => e = .returned (.int .i64 0) ∧ K7 w0 q p [x] (A ++ B) (remB A B b x) R2 b2 w' ∧ Fr q.blocks W w' := by
  obtain ⟨S, f, g, hl⟩ := h.m
  refine (x_rem g).mono fun e w' ⟨he, k, kf⟩ => ⟨he, h.mem ⟨S, f, k, fun y => ?_⟩ kf, kf⟩
  rw [hl]
  constructor
  · rintro (m | m)
    · exact nomatch m
    · rcases List.mem_append.1 m with m | m
      · exact .inr (List.mem_append.2 (.inl m))
      · rcases List.mem_cons.1 m with e | m
        · exact .inl (List.mem_singleton.2 e)
        · exact .inr (List.mem_append.2 (.inr m))
  · rintro (m | m)
    · rw [List.mem_singleton.1 m]; exact .inr (List.mem_append.2 (.inr (List.mem_cons_self ..)))
    · exact .inr (List.mem_append.2 ((List.mem_append.1 m).imp id (List.mem_cons_of_mem _)))
theorem k_xrem (h : K7 w0 q p X R b (A ++ x :: B) b2 W) (hn : (A ++ x :: B).Nodup) (hl : (A ++ x :: B).length ≤ 1000) : Calls Tryz.prog 58 #[.pointer (some ⟨p, 0, none⟩), .int .i64 x] W fun e w' => e = .returned (.int .i64 0) ∧ K7 w0 q p X R b (A ++ B) (remB A B b2 x) w' ∧ Fr [p] W w' := by
  obtain ⟨ad, cap, hr⟩ := h.r
  exact (xrem hr hn (by omega)).mono fun e w' ⟨he, k, kf⟩ => ⟨he, h.ref k kf, kf⟩
theorem k_remNo (h : K7 w0 q p [x] R b R2 b2 W) (hx : x ∉ R) : Calls Tryz.prog 47 #[.pointer (some ⟨q.m, 0, none⟩), .int .i64 x] W fun e w' => e = .returned (.int .i64 7) ∧ K7 w0 q p [x] R b R2 b2 w' ∧ Fr q.blocks W w' := by
  obtain ⟨S, f, g, hl⟩ := h.m
  exact (x_remNo g ((hl x).2 (.inl (List.mem_singleton.2 rfl))) hx).mono fun e w' ⟨he, k, kf⟩ => ⟨he, h.mem ⟨S, f, k, hl⟩ kf, kf⟩
theorem k_give (h : K7 w0 q p [x] R b R2 b2 W) (hx : x ∉ R) : Calls Tryz.prog 25 #[.pointer (some ⟨q.m, 0, none⟩), .int .i64 x] W fun e w' => e = .returned (.int .i64 0) ∧ K7 w0 q p [] R b R2 b2 w' ∧ Fr q.blocks W w' := by
  obtain ⟨S, f, g, hl⟩ := h.m
  refine (x_give g ((hl x).2 (.inl (List.mem_singleton.2 rfl))) hx).mono fun e w' ⟨he, kf, S', k, hl'⟩ => ⟨he, h.mem ⟨S', f, k, fun y => ?_⟩ kf, kf⟩
  rw [hl', hl]
  constructor
  · rintro ⟨m | m, hne⟩
    · exact absurd (List.mem_singleton.1 m) hne
    · exact .inr m
  · rintro (m | m)
    · exact nomatch m
    · exact ⟨.inr m, fun e => hx (e ▸ m)⟩
theorem k_turn0 (h : K7 w0 q p X [] b R2 b2 W) : Calls Tryz.prog 43 #[.pointer (some ⟨q.m, 0, none⟩)] W fun e w' => e = .returned (.int .i64 0) ∧ K7 w0 q p X [] b R2 b2 w' ∧ Fr q.blocks W w' := by
  obtain ⟨S, f, g, hl⟩ := h.m
  exact (x_turn0 g).mono fun e w' ⟨he, k, kf⟩ => ⟨he, h.mem ⟨S, f, k, hl⟩ kf, kf⟩
theorem k_turn1 {a : Nat} {T : List Nat} (h : K7 w0 q p X (a :: T) b R2 b2 W) : Calls Tryz.prog 43 #[.pointer (some ⟨q.m, 0, none⟩)] W fun e w' => e = .returned (.int .i64 a) ∧ K7 w0 q p X (T ++ [a]) b R2 b2 w' ∧ Fr q.blocks W w' := by
  obtain ⟨S, f, g, hl⟩ := h.m
  exact (x_turn1 g).mono fun e w' ⟨he, k, kf⟩ => ⟨he, h.mem ⟨S, f, k, fun y => by rw [hl, List.mem_append, List.mem_singleton, List.mem_cons, @or_comm (y = a)]⟩ kf, kf⟩
theorem k_xturn0 (h : K7 w0 q p X R b [] b2 W) : Calls Tryz.prog 59 #[.pointer (some ⟨p, 0, none⟩)] W fun e w' => e = .returned (.int .i64 0) ∧ K7 w0 q p X R b [] b2 w' ∧ Fr [p] W w' := by
  obtain ⟨ad, cap, hr⟩ := h.r
  exact (xturn0 hr).mono fun e w' ⟨he, kf⟩ => ⟨he, h.fr0 kf, kf.nil⟩
theorem k_xturn1 {a : Nat} {T : List Nat} (h : K7 w0 q p X R b (a :: T) b2 W) (hl : (a :: T).length ≤ 1000) : Calls Tryz.prog 59 #[.pointer (some ⟨p, 0, none⟩)] W fun e w' => e = .returned (.int .i64 a) ∧ K7 w0 q p X R b (T ++ [a]) b2 w' ∧ Fr [p] W w' := by
  obtain ⟨ad, cap, hr⟩ := h.r
  exact (xturn1 hr (by omega)).mono fun e w' ⟨he, k, kf⟩ => ⟨he, h.ref k kf, kf⟩
theorem k_brush0 (h : K7 w0 q p X [] b R2 b2 W) : Calls Tryz.prog 45 #[.pointer (some ⟨q.m, 0, none⟩)] W fun e w' => e = .returned (.int .i64 0) ∧ K7 w0 q p X [] b R2 b2 w' ∧ Fr q.blocks W w' := by
  obtain ⟨S, f, g, hl⟩ := h.m
  exact (x_brush0 g).mono fun e w' ⟨he, k, kf⟩ => ⟨he, h.mem ⟨S, f, k, hl⟩ kf, kf⟩
theorem k_brush1 (h : K7 w0 q p X (A ++ b :: B) b R2 b2 W) : Calls Tryz.prog 45 #[.pointer (some ⟨q.m, 0, none⟩)] W fun e w' => e = .returned (.int .i64 b) ∧ K7 w0 q p X (A ++ b :: B) ((B ++ A).headD b) R2 b2 w' ∧ Fr q.blocks W w' := by
  obtain ⟨S, f, g, hl⟩ := h.m
  exact (x_brush1 g).mono fun e w' ⟨he, k, kf⟩ => ⟨he, h.mem ⟨S, f, k, hl⟩ kf, kf⟩
theorem k_xbrush0 (h : K7 w0 q p X R b [] b2 W) : Calls Tryz.prog 60 #[.pointer (some ⟨p, 0, none⟩)] W fun e w' => e = .returned (.int .i64 b2) ∧ K7 w0 q p X R b [] b2 w' ∧ Fr [p] W w' := by
  obtain ⟨ad, cap, hr⟩ := h.r
  exact (xbrush0 hr).mono fun e w' ⟨he, kf⟩ => ⟨he, h.fr0 kf, kf.nil⟩
theorem k_xbrush1 (h : K7 w0 q p X R b (A ++ b2 :: B) b2 W) (hn : b2 ∉ A) (hl : (A ++ b2 :: B).length ≤ 1000) : Calls Tryz.prog 60 #[.pointer (some ⟨p, 0, none⟩)] W fun e w' => e = .returned (.int .i64 b2) ∧ K7 w0 q p X R b (A ++ b2 :: B) ((B ++ A).headD b2) w' ∧ Fr [p] W w' := by
  obtain ⟨ad, cap, hr⟩ := h.r
  exact (xbrush1 hr hn (by omega)).mono fun e w' ⟨he, k, kf⟩ => ⟨he, h.ref k kf, kf⟩
theorem x_free {S : SS} {ft : Int} (h : GX w0 q S R b ft W) (h0 : lst 7 S.inn 0 = []) : Calls Tryz.prog 28 #[.pointer (some ⟨q.m, 0, none⟩)] W fun e w' => e = .returned (.int .i64 0) ∧ Fr [] w0 w' := by
  obtain ⟨u, E, g, _⟩ := h
  have ha := liall g.h.m g.sl.ls 0
  have e0 : lstI u.a S.inn 0 = lst 7 S.inn 0 := by unfold lstI; rw [if_pos (by decide), g.a]; rfl
  rw [e0, h0] at ha
  have HM := Lib.hid (fun w' (hf' : Fr q.blocks W w') => (show Fr [] w0 w' from g.f.step hf' (fun k hk => .inr (g.hq k hk))))
  clear g e0 h0
  go_enter Tryz.func28, Tryz.ntmps28
  go_wp2_with fail
  with_reducible refine ha.mono ?_
  rintro e w1 ⟨v, rfl, hv, k1, f1⟩
  have H1 := Lib.hid (HM.out _ f1)
  obtain ⟨ad, cap, rfl, hrow⟩ := own_row hv
  clear hrow hv k1 f1 HM ha
  go_wp2_with fail
  go_ret
  exact ⟨rfl, H1.out⟩
theorem k_move (h : K7 w0 q p [] (A ++ x :: B) b R2 b2 W) : Calls Tryz.prog 61 #[.pointer (some ⟨q.m, 0, none⟩), .int .i64 x] W fun e w' => ∃ y : Nat, e = .returned (.int .i64 y) ∧
    ((y = 0 ∧ Calls Tryz.prog 28 #[.pointer (some ⟨q.m, 0, none⟩)] w' fun e w' => e = .returned (.int .i64 0) ∧ Fr [] w0 w') ∨ (0 < y ∧ K7 w0 q p [] (A ++ y :: B) (if b = x then y else b) R2 b2 w' ∧ Fr q.blocks W w')) := by
  obtain ⟨S, f, g, hl⟩ := h.m
  refine (x_move g).mono fun e w' ⟨y, he, kf, hm⟩ => ⟨y, he, ?_⟩
  rcases hm with ⟨h0, h1, h2⟩ | ⟨h0, h1, h2, S2, h3, h4⟩
  · exact .inl ⟨h0, x_free h2 h1⟩
  · refine .inr ⟨h0, h.mem ⟨S2, f, h3, fun z => ?_⟩ kf, kf⟩
    have hnd := nd_mid h.nd
    rw [h4, hl]
    constructor
    · rintro (e | ⟨m | m, hne⟩)
      · rw [e]; exact .inr (List.mem_append.2 (.inr (List.mem_cons_self ..)))
      · exact nomatch m
      · rcases List.mem_append.1 m with m | m
        · exact .inr (List.mem_append.2 (.inl m))
        · rcases List.mem_cons.1 m with e | m
          · exact absurd e hne
          · exact .inr (List.mem_append.2 (.inr (List.mem_cons_of_mem _ m)))
    · rintro (m | m)
      · exact nomatch m
      · rcases List.mem_append.1 m with m | m
        · exact .inr ⟨.inr (List.mem_append.2 (.inl m)), fun e => hnd.1 (e ▸ m)⟩
        · rcases List.mem_cons.1 m with e | m
          · exact .inl e
          · exact .inr ⟨.inr (List.mem_append.2 (.inr (List.mem_cons_of_mem _ m))), fun e => hnd.2 (List.mem_append.2 (.inr (e ▸ m)))⟩
theorem k_xmove {y : Nat} (h : K7 w0 q p X R b (A ++ x :: B) b2 W) (hn : x ∉ A) (hl : (A ++ x :: B).length ≤ 1000) : Calls Tryz.prog 62 #[.pointer (some ⟨p, 0, none⟩), .int .i64 x, .int .i64 y] W fun e w' => e = .returned (.tuple #[]) ∧ K7 w0 q p X R b (A ++ y :: B) (if b2 = x then y else b2) w' ∧ Fr [p] W w' := by
  obtain ⟨ad, cap, hr⟩ := h.r
  exact (xmove hr hn (by omega)).mono fun e w' ⟨he, k, kf⟩ => ⟨he, h.ref k kf, kf⟩
theorem k_insSt (h : K7 w0 q p X R b R2 b2 W) (hx : x ∈ R) : Calls Tryz.prog 42 #[.pointer (some ⟨q.m, 0, none⟩), .int .i64 x] W fun e w' => e = .returned (.int .i64 8) ∧ K7 w0 q p X R b R2 b2 w' ∧ Fr q.blocks W w' := by
  obtain ⟨S, f, g, hl⟩ := h.m
  exact (x_insSt g hx).mono fun e w' ⟨he, k, kf⟩ => ⟨he, h.mem ⟨S, f, k, hl⟩ kf, kf⟩
theorem k_xinsSt (h : K7 w0 q p X R b R2 b2 W) (hx : x ∈ R2) (hn : R2.Nodup) (hl : R2.length ≤ 1000) : Calls Tryz.prog 63 #[.pointer (some ⟨p, 0, none⟩), .int .i64 x] W fun e w' => e = .returned (.int .i64 8) ∧ K7 w0 q p X R b R2 b2 w' ∧ Fr [p] W w' := by
  obtain ⟨ad, cap, hr⟩ := h.r
  exact (xinsSt hr (by omega) hx hn).mono fun e w' ⟨he, kf⟩ => ⟨he, h.fr0 kf, kf.nil⟩
theorem k_entry (h : K7 w0 q p [] R b R2 b2 W) (c : Int) : Calls Tryz.prog 41 #[.pointer (some ⟨q.m, 0, none⟩), .int .i64 c] W fun e w' => ∃ x : Nat, e = .returned (.int .i64 x) ∧ Fr q.blocks W w' ∧ ((x = 0 ∧ K7 w0 q p [] R b R2 b2 w') ∨ (0 < x ∧ x ∉ R ∧ K7 w0 q p [x] R b R2 b2 w')) := by
  obtain ⟨S, f, g, hl⟩ := h.m
  refine (x_entry g c).mono fun e w' ⟨x, he, kf, hE⟩ => ⟨x, he, kf, ?_⟩
  rcases hE with ⟨_, h0, g'⟩ | ⟨_, _, _, _, g', h1, h2, h3, _, h5⟩
  · exact .inl ⟨h0, h.mem ⟨S, f, g', hl⟩ kf⟩
  · refine .inr ⟨h3, fun m => h2 ((hl x).2 (.inr m)), h.mem ⟨_, f, g', fun y => ?_⟩ kf⟩
    rw [h5, hl, List.mem_singleton]
    constructor
    · rintro (e | m | m)
      · exact .inl e
      · exact nomatch m
      · exact .inr m
    · rintro (e | m)
      · exact .inl e
      · exact .inr (.inr m)
theorem k_ins (h : K7 w0 q p [x] R b R2 b2 W) (hx : x ∉ R) : Calls Tryz.prog 42 #[.pointer (some ⟨q.m, 0, none⟩), .int .i64 x] W fun e w' => e = .returned (.int .i64 0) ∧ K7 w0 q p [] (R ++ [x]) (insB R b x) R2 b2 w' ∧ Fr q.blocks W w' := by
  obtain ⟨S, f, g, hl⟩ := h.m
  refine (x_ins g ((hl x).2 (.inl (List.mem_singleton.2 rfl))) hx).mono fun e w' ⟨he, k, kf⟩ => ⟨he, h.mem ⟨S, f, k, fun y => ?_⟩ kf, kf⟩
  rw [hl, List.mem_append, or_comm]
  exact ⟨.inr, fun h => h.elim (fun m => nomatch m) id⟩
theorem k_xins (h : K7 w0 q p X R b R2 b2 W) (hx : x ∉ R2) (hl : R2.length ≤ 1000) : Calls Tryz.prog 63 #[.pointer (some ⟨p, 0, none⟩), .int .i64 x] W fun e w' => e = .returned (.int .i64 0) ∧ K7 w0 q p X R b (R2 ++ [x]) (insB R2 b2 x) w' ∧ Fr [p] W w' := by
  obtain ⟨ad, cap, hr⟩ := h.r
  exact (xins hr (by omega) hx).mono fun e w' ⟨he, k, kf⟩ => ⟨he, h.ref k kf, kf⟩
/-- Behind a look at a place that is no entry. -/
def K8 (w0 : World) (q : MH) (p : Nat) (R : List Nat) (b : Nat) (R2 : List Nat) (b2 : Nat) (N : Int) (W : World) : Prop :=
  K7 w0 q p [] R b R2 b2 W ∧ ∃ S u E, GU w0 q S R b u E W ∧ (∀ y, LvP S y ↔ y ∈ R) ∧ tagA u N ≠ 1
theorem k8_mk (h : K7 w0 q p [] R b R2 b2 W) {S : SS} {u : TM} {E : Nat → HB} {N : Int} (g : GU w0 q S R b u E W) (hl : ∀ y, LvP S y ↔ y ∈ R) (ht : tagA u N ≠ 1) (hk : ∃ f, IsH W' q (u.fl f)) (hf : Fr q.blocks W W') : K8 w0 q p R b R2 b2 N W' := by
  obtain ⟨f, hk⟩ := hk
  have g2 : GU w0 q S R b (u.fl f) E W' := ⟨hk, g.sl.fl f, g.rg.fl f, g.a, g.s, g.f.step hf (fun k hk => .inr (g.hq k hk)), g.hq⟩
  exact ⟨h.mem ⟨S, f, ⟨_, _, g2, rfl⟩, fun y => by rw [hl]; exact ⟨.inr, fun h => h.elim (fun m => nomatch m) id⟩⟩ hf, S, u.fl f, E, g2, hl, ht⟩
theorem k_load (h : K7 w0 q p [] R b R2 b2 W) (N : Int) (hN : -9223372036854775808 ≤ N ∧ N ≤ 9223372036854775807) : Calls Tryz.prog 64 #[.pointer (some ⟨q.m, 0, none⟩), .int .i64 N, .int .i64 0] W fun e w' => ∃ v : Nat, e = .returned (.int .u64 v) ∧ Fr q.blocks W w' ∧ K7 w0 q p [] R b R2 b2 w' ∧ (v ≠ 1 → K8 w0 q p R b R2 b2 N w') := by
  obtain ⟨S, f, ⟨u, E, g, _⟩, hl⟩ := h.m
  have hl' : ∀ y, LvP S y ↔ y ∈ R := fun y => by rw [hl]; exact ⟨fun h => h.elim (fun m => nomatch m) id, .inr⟩
  refine (hload_tag W q u g.h N hN).mono fun e w' ⟨v, he, h1, hk, kf⟩ => ⟨v, he, kf, ?_, fun hv => k8_mk h g hl' (fun e => hv (h1 e)) hk kf⟩
  obtain ⟨f', hk⟩ := hk
  exact h.mem ⟨S, f', ⟨u.fl f', E, ⟨hk, g.sl.fl f', g.rg.fl f', g.a, g.s, g.f.step kf (fun k hk => .inr (g.hq k hk)), g.hq⟩, rfl⟩, hl⟩ kf
theorem k_remBad {N : Int} (h : K8 w0 q p R b R2 b2 N W) : Calls Tryz.prog 47 #[.pointer (some ⟨q.m, 0, none⟩), .int .i64 N] W fun e w' => e = .returned (.int .i64 30) ∧ K8 w0 q p R b R2 b2 N w' ∧ Fr q.blocks W w' := by
  obtain ⟨h, S, u, E, g, hl, ht⟩ := h
  exact (gremBad g.h N ht).mono fun e w' ⟨he, hk, kf⟩ => ⟨he, k8_mk h g hl ht hk kf, kf⟩
theorem k_insBad {N : Int} (h : K8 w0 q p R b R2 b2 N W) : Calls Tryz.prog 42 #[.pointer (some ⟨q.m, 0, none⟩), .int .i64 N] W fun e w' => e = .returned (.int .i64 30) ∧ K8 w0 q p R b R2 b2 N w' ∧ Fr q.blocks W w' := by
  obtain ⟨h, S, u, E, g, hl, ht⟩ := h
  exact (ginsBad g.h N ht).mono fun e w' ⟨he, hk, kf⟩ => ⟨he, k8_mk h g hl ht hk kf, kf⟩
theorem k_all (h : K7 w0 q p X R b R2 b2 W) : Calls Tryz.prog 44 #[.pointer (some ⟨q.m, 0, none⟩)] W fun e w' => ∃ ad cap, e = .returned (.slice ad R.length cap) ∧ RowV w' W.heap.size ad cap R ∧ K7 w0 q p X R b R2 b2 w' ∧ Fr q.blocks W w' := by
  obtain ⟨S, f, g, hl⟩ := h.m
  refine (x_all g).mono fun e w' ⟨v, he, r, k, kf⟩ => ?_
  obtain ⟨ad, cap, rfl, hr⟩ := own_row r
  exact ⟨ad, cap, he, hr, h.mem ⟨S, f, k, hl⟩ kf, kf⟩
theorem k_hand (h : K7 w0 q p X R b R2 b2 W) : Calls Tryz.prog 65 #[.pointer (some ⟨q.m, 0, none⟩)] W fun e w' => e = .returned (.int .i64 (R.headD 0 : Nat)) ∧ K7 w0 q p X R b R2 b2 w' ∧ Fr q.blocks W w' := by
  obtain ⟨S, f, g, hl⟩ := h.m
  exact (x_hand g).mono fun e w' ⟨he, k, kf⟩ => ⟨he, h.mem ⟨S, f, k, hl⟩ kf, kf⟩
theorem k_broom (h : K7 w0 q p X R b R2 b2 W) : Calls Tryz.prog 67 #[.pointer (some ⟨q.m, 0, none⟩)] W fun e w' => e = .returned (.int .i64 b) ∧ K7 w0 q p X R b R2 b2 w' ∧ Fr q.blocks W w' := by
  obtain ⟨S, f, g, hl⟩ := h.m
  exact (x_broom g).mono fun e w' ⟨he, k, kf⟩ => ⟨he, h.mem ⟨S, f, k, hl⟩ kf, kf⟩
theorem k_len (h : K7 w0 q p X R b R2 b2 W) : Calls Tryz.prog 68 #[.pointer (some ⟨q.m, 0, none⟩)] W fun e w' => e = .returned (.int .i64 R.length) ∧ K7 w0 q p X R b R2 b2 w' ∧ Fr q.blocks W w' := by
  obtain ⟨S, f, g, hl⟩ := h.m
  exact (x_len g).mono fun e w' ⟨he, k, kf⟩ => ⟨he, h.mem ⟨S, f, k, hl⟩ kf, kf⟩
end
end Go.Proofs.YtkapkbiccppldaaGreatDoor
