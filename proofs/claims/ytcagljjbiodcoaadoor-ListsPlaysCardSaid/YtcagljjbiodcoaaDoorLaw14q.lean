/- Layer 14: one act, on both. -/
import Derived.Test.YtcagljjbiodcoaaDoorLaw14p
namespace Go.Proofs.YtcagljjbiodcoaaDoor
set_option linter.unusedVariables false
open Go.RowKit

section
variable {w0 W : World} {q : MH} {p a : Nat} {ex : List (Nat × TypeId × Array Value)} {iT iR : Nat → Int} {hT hR : HH}
def ActP (w0 : World) (q : MH) (p a : Nat) (ex : List (Nat × TypeId × Array Value)) (e : Ending) (w' : World) : Prop := e = .returned (.bool true) ∧ ∃ inn hh, K14 w0 q p a ex inn hh inn hh w'
theorem K14.cell1 {g : Nat} {t : TypeId} {cs : Array Value} (h : K14 w0 q p a ((g, t, cs) :: ex) iT hT iR hR W) (i : Nat) : W.cell? ⟨g, i, none⟩ = cs[i]? := (h.ex _ (List.mem_cons_self ..)).1.cell i
theorem u32eq (x : Nat) : ((x : Int) == x) = true := by simp
theorem inteq (x : Int) : (x == x) = true := by simp
set_option maxRecDepth 100000 in
set_option maxHeartbeats 4000000 in
theorem walk_act_rem (h : K14 w0 q p a [] iT hT iT hT W) (k c x l : Int) (f : Nat) (hk : k = 3 ∨ k = 4) :
    Calls Tryd.prog 39 #[.pointer (some ⟨q.m, 0, none⟩), .pointer (some ⟨p, 0, none⟩), .agg #[.int .i64 k, .int .i64 c, .int .i64 x, .int .i64 l, .int .u32 f]] W (ActP w0 q p a []) := by
  have hK := h.box 57 #[.int .i64 k, .int .i64 c, .int .i64 x, .int .i64 l, .int .u32 f]
  have HK := Lib.hid hK
  have d0 := hK.cell1 0
  simp at d0
  have he := inteq (remE a iT c x)
  have HK1 := Lib.hid (fun W' (h' : K14 w0 q p a [(W.heap.size, 57, #[.int .i64 k, .int .i64 c, .int .i64 x, .int .i64 l, .int .u32 f])] iT hT iT hT W') => k_rem h' c x)
  have HK2 := Lib.hid (fun W' (h' : K14 w0 q p a [(W.heap.size, 57, #[.int .i64 k, .int .i64 c, .int .i64 x, .int .i64 l, .int .u32 f])] (remI a iT c x) hT iT hT W') => r_rem h' c x)
  have HC := Lib.hid (fun W' (iT' iR' : Nat → Int) (h' : K14 w0 q p a [(W.heap.size, 57, #[.int .i64 k, .int .i64 c, .int .i64 x, .int .i64 l, .int .u32 f])] iT' hT iR' hT W') => And.intro (show W'.cell? ⟨W.heap.size, 1, none⟩ = some (.int .i64 c) from h'.cell1 1) (show W'.cell? ⟨W.heap.size, 2, none⟩ = some (.int .i64 x) from h'.cell1 2))
  have HE := Lib.hid (fun W' (h' : K14 w0 q p a [(W.heap.size, 57, #[.int .i64 k, .int .i64 c, .int .i64 x, .int .i64 l, .int .u32 f])] (remI a iT c x) hT (remI a iT c x) hT W') => show ActP w0 q p a [] (.returned (.bool true)) W' from ⟨rfl, _, _, h'.weak⟩)
  generalize remI a iT c x = iT2 at *
  generalize remE a iT c x = r at *
  clear h hK
  rcases hk with rfl | rfl
  all_goals
    go_enter Tryd.func39, Tryd.ntmps39
    go_wp2_with fail
    have hY := HC.out _ _ _ HK.out.drew
    go_region_held3 (fun W' => W'.cell? ⟨W.heap.size, 1, none⟩ = some (.int .i64 c) ∧ W'.cell? ⟨W.heap.size, 2, none⟩ = some (.int .i64 x)) (exact hY)
      (first | (go_at_call 34; with_reducible refine (HK1.out _ HK.out.drew).mono ?_; rintro e W2 ⟨rfl, hS2⟩; have HS2 := Lib.hid hS2; have hY := HC.out _ _ _ hS2; clear hS2) | (go_at_call 82; with_reducible refine (HK2.out _ HS2.out).mono ?_; rintro e W3 ⟨rfl, hS3⟩; have HS3 := Lib.hid hS3; have hY := HC.out _ _ _ hS3; clear hS3) | fail)
    go_wp2_with fail
    go_ret
    exact HE.out _ HS3.out
set_option maxRecDepth 100000 in
set_option maxHeartbeats 4000000 in
theorem walk_act_ins (h : K14 w0 q p a [] iT hT iT hT W) (k c x l : Int) (f : Nat) (hk : k ≠ 3 ∧ k ≠ 4 ∧ k ≠ 5 ∧ k ≠ 6) :
    Calls Tryd.prog 39 #[.pointer (some ⟨q.m, 0, none⟩), .pointer (some ⟨p, 0, none⟩), .agg #[.int .i64 k, .int .i64 c, .int .i64 x, .int .i64 l, .int .u32 f]] W (ActP w0 q p a []) := by
  have hK := h.box 57 #[.int .i64 k, .int .i64 c, .int .i64 x, .int .i64 l, .int .u32 f]
  have HK := Lib.hid hK
  have d0 := hK.cell1 0
  simp at d0
  have he := inteq (insE a iT c x)
  have HK1 := Lib.hid (fun W' (h' : K14 w0 q p a [(W.heap.size, 57, #[.int .i64 k, .int .i64 c, .int .i64 x, .int .i64 l, .int .u32 f])] iT hT iT hT W') => k_ins h' c x)
  have HK2 := Lib.hid (fun W' (h' : K14 w0 q p a [(W.heap.size, 57, #[.int .i64 k, .int .i64 c, .int .i64 x, .int .i64 l, .int .u32 f])] (insI a iT c x) hT iT hT W') => r_ins h' c x)
  have HC := Lib.hid (fun W' (iT' iR' : Nat → Int) (h' : K14 w0 q p a [(W.heap.size, 57, #[.int .i64 k, .int .i64 c, .int .i64 x, .int .i64 l, .int .u32 f])] iT' hT iR' hT W') => And.intro (show W'.cell? ⟨W.heap.size, 1, none⟩ = some (.int .i64 c) from h'.cell1 1) (show W'.cell? ⟨W.heap.size, 2, none⟩ = some (.int .i64 x) from h'.cell1 2))
  have HE := Lib.hid (fun W' (h' : K14 w0 q p a [(W.heap.size, 57, #[.int .i64 k, .int .i64 c, .int .i64 x, .int .i64 l, .int .u32 f])] (insI a iT c x) hT (insI a iT c x) hT W') => show ActP w0 q p a [] (.returned (.bool true)) W' from ⟨rfl, _, _, h'.weak⟩)
  generalize insI a iT c x = iT2 at *
  generalize insE a iT c x = r at *
  clear h hK
  have n3 : (k == 3) = false := by simpa using hk.1
  have n4 : (k == 4) = false := by simpa using hk.2.1
  have n5 : (k == 5) = false := by simpa using hk.2.2.1
  have n6 : (k == 6) = false := by simpa using hk.2.2.2
  clear hk
  go_enter Tryd.func39, Tryd.ntmps39
  go_wp2_with fail
  have hY := HC.out _ _ _ HK.out.drew
  go_region_held3 (fun W' => W'.cell? ⟨W.heap.size, 1, none⟩ = some (.int .i64 c) ∧ W'.cell? ⟨W.heap.size, 2, none⟩ = some (.int .i64 x)) (exact hY)
    (first | (go_at_call 33; with_reducible refine (HK1.out _ HK.out.drew).mono ?_; rintro e W2 ⟨rfl, hS2⟩; have HS2 := Lib.hid hS2; have hY := HC.out _ _ _ hS2; clear hS2) | (go_at_call 85; with_reducible refine (HK2.out _ HS2.out).mono ?_; rintro e W3 ⟨rfl, hS3⟩; have HS3 := Lib.hid hS3; have hY := HC.out _ _ _ hS3; clear hS3) | fail)
  go_wp2_with fail
  go_ret
  exact HE.out _ HS3.out
set_option maxRecDepth 100000 in
set_option maxHeartbeats 4000000 in
theorem walk_act_set (h : K14 w0 q p a [] iT hT iT hT W) (c x l : Int) (f : Nat) (hf : f < 4294967296) :
    Calls Tryd.prog 39 #[.pointer (some ⟨q.m, 0, none⟩), .pointer (some ⟨p, 0, none⟩), .agg #[.int .i64 5, .int .i64 c, .int .i64 x, .int .i64 l, .int .u32 f]] W (ActP w0 q p a []) := by
  have hK := h.box 57 #[.int .i64 5, .int .i64 c, .int .i64 x, .int .i64 l, .int .u32 f]
  have HK := Lib.hid hK
  have d0 := hK.cell1 0
  simp at d0
  have he := inteq (setE a x c l)
  have HK1 := Lib.hid (fun W' (h' : K14 w0 q p a [(W.heap.size, 57, #[.int .i64 5, .int .i64 c, .int .i64 x, .int .i64 l, .int .u32 f])] iT hT iT hT W') => k_set h' x c l f hf)
  have HK2 := Lib.hid (fun W' (h' : K14 w0 q p a [(W.heap.size, 57, #[.int .i64 5, .int .i64 c, .int .i64 x, .int .i64 l, .int .u32 f])] iT (setH a hT x c l f) iT hT W') => r_set h' x c l f)
  have HC := Lib.hid (fun W' (hT' hR' : HH) (h' : K14 w0 q p a [(W.heap.size, 57, #[.int .i64 5, .int .i64 c, .int .i64 x, .int .i64 l, .int .u32 f])] iT hT' iT hR' W') => And.intro (show W'.cell? ⟨W.heap.size, 1, none⟩ = some (.int .i64 c) from h'.cell1 1) (And.intro (show W'.cell? ⟨W.heap.size, 2, none⟩ = some (.int .i64 x) from h'.cell1 2) (And.intro (show W'.cell? ⟨W.heap.size, 3, none⟩ = some (.int .i64 l) from h'.cell1 3) (show W'.cell? ⟨W.heap.size, 4, none⟩ = some (.int .u32 f) from h'.cell1 4))))
  have HE := Lib.hid (fun W' (h' : K14 w0 q p a [(W.heap.size, 57, #[.int .i64 5, .int .i64 c, .int .i64 x, .int .i64 l, .int .u32 f])] iT (setH a hT x c l f) iT (setH a hT x c l f) W') => show ActP w0 q p a [] (.returned (.bool true)) W' from ⟨rfl, _, _, h'.weak⟩)
  generalize setH a hT x c l f = hT2 at *
  generalize setE a x c l = r at *
  clear h hK hf
  go_enter Tryd.func39, Tryd.ntmps39
  go_wp2_with fail
  have hY := HC.out _ _ _ HK.out.drew
  go_region_held3 (fun W' => W'.cell? ⟨W.heap.size, 1, none⟩ = some (.int .i64 c) ∧ W'.cell? ⟨W.heap.size, 2, none⟩ = some (.int .i64 x) ∧ W'.cell? ⟨W.heap.size, 3, none⟩ = some (.int .i64 l) ∧ W'.cell? ⟨W.heap.size, 4, none⟩ = some (.int .u32 f)) (exact hY)
    (first | (go_at_call 83; with_reducible refine (HK1.out _ HK.out.drew).mono ?_; rintro e W2 ⟨rfl, hS2⟩; have HS2 := Lib.hid hS2; have hY := HC.out _ _ _ hS2; clear hS2) | (go_at_call 84; with_reducible refine (HK2.out _ HS2.out).mono ?_; rintro e W3 ⟨rfl, hS3⟩; have HS3 := Lib.hid hS3; have hY := HC.out _ _ _ hS3; clear hS3) | fail)
  go_wp2_with fail
  go_ret
  exact HE.out _ HS3.out
/-- The document's lists are made anew, and p points to them. -/
theorem K14.anew (h : K14 w0 q p a ex iT hT iR hR W) {p' gh gi : Nat} {W' : World} (hf : Fr [] W W') (h1 : IsR W' p' gh gi a (fun _ => (0, 0, 0)) (fun _ => 0)) (hg1 : W.heap.size ≤ gh) (hg2 : W.heap.size ≤ gi) (hg3 : W.heap.size ≤ p') :
    K14 w0 q p a ex iT hT (fun _ => 0) (fun _ => (0, 0, 0)) ((W'.setCell ⟨p, 0, none⟩ (.slice (some ⟨gh, 0, none⟩) a a)).setCell ⟨p, 1, none⟩ (.slice (some ⟨gi, 0, none⟩) a a)) := by
  have h' := h.fr0 hf
  have hex := h.ex
  have hws := h.f.size
  obtain ⟨t0, gh0, gi0, k1, k2, k3, k4, k5, k6, k7, k8, k9⟩ := h.x
  obtain ⟨t, gh1, gi1, x1, x2, x3, x4, x5, x6, x7, x8, x9⟩ := h'.x
  have hp := k6.st.lt
  have hs := (x6.st.set 0 (.slice (some ⟨gh, 0, none⟩) a a)).set 1 (.slice (some ⟨gi, 0, none⟩) a a)
  simp at hs
  have f2 : Fr [p] W' ((W'.setCell ⟨p, 0, none⟩ (.slice (some ⟨gh, 0, none⟩) a a)).setCell ⟨p, 1, none⟩ (.slice (some ⟨gi, 0, none⟩) a a)) := ((Fr.refl [p] W').setCell (.inl (by simp)) _).setCell (.inl (by simp)) _
  have hg := h.hg
  refine ⟨⟨t, gh, gi, x1.fr f2 (fun k hk hm => by simp at hm; subst hm; exact x7.1 hk) (fun k hk hm => by simp at hm; have := h.hp; omega), x2, x3, x4, x5, ⟨hs, h1.H.fr f2 (by simp; omega), h1.I.fr f2 (by simp; omega), h1.a1, h1.a2, h1.le⟩, ⟨x7.1, fun hm => by have := k1.lt _ hm; omega, fun hm => by have := k1.lt _ hm; omega⟩, ⟨by omega, by omega⟩, fun b hb => ?_⟩, h'.f.step f2 (fun k hk => .inr (by simp at hk; have := h.hp; omega)), h.hq, h.hp, h.hg, fun b hb => ⟨(h'.ex b hb).1.fr f2 (by have := (h.ex b hb).2.2; simpa using this), (h.ex b hb).2⟩⟩
  have := (hex b hb).1.lt
  exact ⟨by omega, by omega⟩
set_option maxRecDepth 100000 in
set_option maxHeartbeats 4000000 in
theorem walk_act_beg (h : K14 w0 q p a [] iT hT iT hT W) (c x l : Int) (f : Nat) :
    Calls Tryd.prog 39 #[.pointer (some ⟨q.m, 0, none⟩), .pointer (some ⟨p, 0, none⟩), .agg #[.int .i64 6, .int .i64 c, .int .i64 x, .int .i64 l, .int .u32 f]] W (ActP w0 q p a []) := by
  have hK := h.box 57 #[.int .i64 6, .int .i64 c, .int .i64 x, .int .i64 l, .int .u32 f]
  have HK := Lib.hid hK
  have d0 := hK.cell1 0
  simp at d0
  obtain ⟨t, gh, gi, x1, x2, x3, x4, x5, x6, x7, x8, x9⟩ := hK.x
  have c0 := x6.st.cell 0
  simp at c0
  have HB := Lib.hid (fun W => r14begin W a x6.a1 x6.a2)
  have hpl := x6.st.lt
  have HS := Lib.hid x6.st
  have HA := Lib.hid (fun p' gh gi W' hf h1 hg1 hg2 hg3 => hK.anew (p' := p') (gh := gh) (gi := gi) (W' := W') hf h1 hg1 hg2 hg3)
  have HE := Lib.hid (fun W' (h' : K14 w0 q p a [(W.heap.size, 57, #[.int .i64 6, .int .i64 c, .int .i64 x, .int .i64 l, .int .u32 f])] (fun _ => 0) (fun _ => (0, 0, 0)) (fun _ => 0) (fun _ => (0, 0, 0)) W') => show ActP w0 q p a [] (.returned (.bool true)) W' from ⟨rfl, _, _, h'.weak⟩)
  clear h hK x1 x2 x3 x4 x5 x6 x7 x8 x9
  go_enter Tryd.func39, Tryd.ntmps39
  go_wp2_with fail
  with_reducible refine (HB.out _).mono ?_
  rintro e W1 ⟨p', gh', gi', rfl, r1, r2, r3, r4, r5⟩
  have hpp : p' ≠ p := by omega
  have e0 := r1.st.cell 0
  have e1 := fun v => (r1.st.far (p := ⟨p, 0, none⟩) (by simpa using hpp) v).cell 1
  simp at e0 e1
  have s0 := HS.out.fr r5 (by simp)
  have s1 := fun v => s0.set 0 v
  have z0 := s0.frozen 0
  have z1 := fun v => (s1 v).frozen 1
  have y0 := s0.cell 0
  have y1 := fun v => (s1 v).cell 1
  simp at y0 y1
  have HK2 := Lib.hid (k_beg (HA.out _ _ _ _ r5 r1 r3 r4 r2))
  clear HB HA r1 r2 r3 r4 r5 s0 s1 hpl hpp
  go_wp2_with fail
  with_reducible refine HK2.out.mono ?_
  rintro e W2 ⟨rfl, hS2⟩
  have HS2 := Lib.hid hS2
  clear hS2
  go_wp2_with fail
  go_ret
  exact HE.out _ HS2.out
theorem walk_act (h : K14 w0 q p a [] iT hT iT hT W) (y : A14) (hy : y.Ok) :
    Calls Tryd.prog 39 #[.pointer (some ⟨q.m, 0, none⟩), .pointer (some ⟨p, 0, none⟩), .agg y.cells] W (ActP w0 q p a []) := by
  obtain ⟨k, c, x, l, f⟩ := y
  by_cases h3 : k = 3 ∨ k = 4
  · exact walk_act_rem h k c x l f h3
  by_cases h5 : k = 5
  · subst h5
    exact walk_act_set h c x l f hy.f
  by_cases h6 : k = 6
  · subst h6
    exact walk_act_beg h c x l f
  exact walk_act_ins h k c x l f ⟨fun e => h3 (.inl e), fun e => h3 (.inr e), h5, h6⟩
end
end Go.Proofs.YtcagljjbiodcoaaDoor
