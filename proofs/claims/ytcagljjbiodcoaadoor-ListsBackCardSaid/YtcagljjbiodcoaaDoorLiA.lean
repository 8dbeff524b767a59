/- Package lists: All. -/
import Derived.Test.YtcagljjbiodcoaaDoorLiW
import Derived.Test.YtcagljjbiodcoaaDoorIntR
import Derived.Maps.OwnIn
namespace Go.Proofs.YtcagljjbiodcoaaDoor
set_option linter.unusedVariables false
open Go.RowKit Go.Shelf
attribute [local go_sem] Oper.semAt_some

theorem own_hi {A B : World} {base size n N : Nat} {e : TypeId} {v : Value} {xs : List Value} {S : List Nat} (h : A.ownsRow base e size v n xs) (hN : ∀ g, v.ownBlock = some g → N + 1 < g) (hf : Fr S A B) (hS : ∀ k ∈ S, k ≤ N + 1) : B.ownsRow base e size v n xs := by
  obtain ⟨h1, ⟨h2, h3⟩ | ⟨g, cap, cur, rfl, hb, hg, r1, r2, r3, r4⟩⟩ := h
  · exact ⟨h1, .inl ⟨h2, h3⟩⟩
  · have := hN g rfl
    exact ⟨h1, .inr ⟨g, cap, cur, rfl, hb, (hf.block g (Array.getElem?_eq_some_iff.1 hg).1 (fun hm => by have := hS g hm; omega)).trans hg, r1, r2, r3, r4⟩⟩
def ownS (v : Value) : List Nat := match v.ownBlock with | some g => [g] | none => []
theorem ownS_mem {v : Value} {k : Nat} (h : k ∈ ownS v) : v.ownBlock = some k := by
  unfold ownS at h
  rcases hv : v.ownBlock with _ | g
  · rw [hv] at h; cases h
  · rw [hv] at h; simp at h; rw [h]
theorem fr_grown {W w1 : World} {o : Obj} {v : Value} (h : (W.alloc o).grownBy w1 v.ownBlock) : Fr (ownS v) W w1 := by
  have h0 : Fr (ownS v) W (W.alloc o) := (Fr.refl _ _).alloc o
  refine h0.trans ⟨h.os, h.tape, h.output, h.size, fun k hk hn => h.block k hk (fun e => hn ?_)⟩
  unfold ownS
  rw [← e]
  simp

theorem cells_new1 (w : World) (a : Value) (t : TypeId) : ∀ j u, [a][j]? = some u → (w.alloc (.cells #[a] t)).cell? ((⟨w.heap.size, 0, none⟩ : Addr).add j) = some u := by
  intro j u hj
  have h := (Blk.new w t #[a]).cell j
  have : (⟨w.heap.size, 0, none⟩ : Addr).add j = ⟨w.heap.size, j, none⟩ := by unfold Addr.add; split <;> simp_all
  rw [this, h]
  simpa using hj

set_option maxRecDepth 100000 in
set_option maxHeartbeats 4000000 in
theorem all_in (n : Nat) (hn : 4 ≤ n) (w : World) (q : MH) (t : TM) (h : IsT w q t) (c : Nat) (hc : c ≤ 9) (l : List Nat) (hl : Lk t 0 (t.rt (3 + c)) l) (hso : l.Pairwise (· < ·)) (hll : l.length ≤ 64) :
    CallsIn Fence.wide n Tryd.prog 35 #[.pointer (some ⟨q.m, 0, none⟩), .int .i64 c] w fun e w' => ∃ v, e = .returned v ∧ w'.ownsRow w.heap.size 3 1 v l.length (intC l) ∧ IsT w' q t ∧ Fr q.blocks w w' := by
  have h1 : 1 ≤ n := by omega
  obtain ⟨i0, hi, hz0, hz1, hz2⟩ := info_parts info_int
  have hma := limade h
  have his := liis w c
  rw [decide_eq_true (show 0 ≤ (c : Int) ∧ (c : Int) ≤ 9 by omega)] at his
  refine callsIn_of_wp_marks Tryd.func35 rfl trivial ?_ rfl
  simp only [Tryd.ntmps35, List.size_toArray, List.length_cons, List.length_nil, Nat.reduceAdd, Nat.reduceSub, Array.replicate_succ, Array.replicate_zero, List.push_toArray, List.append_toArray, List.nil_append, List.cons_append]
  gi_wp2_with (first | (refine ⟨trivial, ?_⟩; gi_at_call 70; refine (callsIn_wide.2 hma).mono ?_; rintro e w' ⟨rfl, fm⟩) | (refine ⟨trivial, ?_⟩; gi_at_call 79; refine (callsIn_wide.2 (liis _ c)).mono ?_; rw [decide_eq_true (show 0 ≤ (c : Int) ∧ (c : Int) ≤ 9 by omega)]; rintro e w'' ⟨rfl, rfl⟩) | (refine ⟨trivial, ?_⟩; gi_at_call 80; refine (leach_in _ _ _ _).mono ?_; rintro e w' ⟨rfl, rfl⟩))
  obtain ⟨W0, hW0⟩ : ∃ W0, (((w''.alloc (.cells #[.slice none 0 0] 59)).alloc (.cells #[.pointer (some ⟨q.m, 0, none⟩)] 30)).alloc (.cells #[.int .i64 c] 3)) = W0 := ⟨_, rfl⟩
  have bL : Blk W0 w''.heap.size 59 #[.slice none 0 0] := by rw [← hW0]; exact ((Blk.new w'' _ _).alloc _).alloc _
  have bM : Blk W0 (w''.heap.size + 1) 30 #[.pointer (some ⟨q.m, 0, none⟩)] := by
    rw [← hW0]
    have := ((Blk.new (w''.alloc (.cells #[.slice none 0 0] 59)) 30 #[.pointer (some ⟨q.m, 0, none⟩)]).alloc (.cells #[.int .i64 c] 3))
    rwa [World.size_alloc] at this
  have bC : Blk W0 (w''.heap.size + 1 + 1) 3 #[.int .i64 c] := by
    rw [← hW0]
    have := Blk.new ((w''.alloc (.cells #[.slice none 0 0] 59)).alloc (.cells #[.pointer (some ⟨q.m, 0, none⟩)] 30)) 3 #[.int .i64 c]
    rwa [World.size_alloc, World.size_alloc] at this
  have fr0 : Fr q.blocks w W0 := by rw [← hW0]; exact ((fm.nil.alloc _).alloc _).alloc _
  have hT0 : IsT W0 q t := by rw [← hW0]; exact (((h.fr0 fm).alloc _).alloc _).alloc _
  have hz : W0.heap.size = w''.heap.size + 3 := by rw [← hW0]; simp
  have hlt := h.lt
  have hsz := fm.size
  have hgx := h.tab.size
  rw [hW0]
  clear hW0 hma his fm h
  generalize w''.heap.size = L at *
  clear w''
  have hq : ∀ k, w.heap.size ≤ k → k ∉ q.blocks := fun k hk hm => by have := hlt k hm; omega
  have hnb : ∀ k, k < W0.heap.size → k ∉ [W0.heap.size, W0.heap.size + 1] := fun k hk hm => by simp at hm; omega
  have hmem : ∀ k ∈ [W0.heap.size, W0.heap.size + 1], k ∈ q.blocks ∨ w.heap.size ≤ k := fun k hk => by simp at hk; exact .inr (by omega)
  have hEM : ∀ A B S, EachM A q t (L + 1) (L + 1 + 1) c → Fr S A B → (∀ k ∈ S, k = L ∨ W0.heap.size ≤ k) → EachM B q t (L + 1) (L + 1 + 1) c := fun A B S hM hf hS =>
    ⟨hM.m.fr hf (fun k hk hm => by have := hS k hm; have := hlt k hk; omega) (fun k hk hm => by have := hS k hm; omega), hM.bm.fr hf (fun hm => by have := hS _ hm; omega), hM.bc.fr hf (fun hm => by have := hS _ hm; omega)⟩
  refine wpIn_rng rfl h1 (gf := 109) (lb := #[.pointer (some ⟨L + 1, 0, none⟩), .pointer (some ⟨L + 1 + 1, 0, none⟩)]) rfl trivial (enters_of Tryd.func109 (by kernel_rfl) rfl)
    (leach1 (n - 1) (by omega) q t (L + 1) (L + 1 + 1) c hc l hl hso (hq _ (by omega)) (hq _ (by omega))) (fun _ => rfl)
    (fun A B hA hM hs => ⟨hs.1.keep2 hA ⟨hq _ (by omega), hq _ (by omega)⟩, hs.1.size⟩)
    (fun pre W => EachM W q t (L + 1) (L + 1 + 1) c ∧ Fr q.blocks w W ∧ ∃ v, Blk W L 59 #[v] ∧ W.ownsRow w.heap.size 3 1 v pre.length (intC pre) ∧ ∀ g, v.ownBlock = some g → W0.heap.size + 1 < g)
    (fun _ _ _ => False)
    (fun s A hh => hh.1) (fun cd s A hh => hh.elim)
    ?hI (fun cd s A B hh _ => hh.elim) ?hIs (fun cd s A B hh _ => hh.elim) ⟨⟨hT0, bM, bC⟩, fr0, _, bL, World.ownsRow_nil _ _ _ _, fun g e => by simp [Value.ownBlock] at e⟩
    (fun y a' W => a' = { tmps := #[.pointer (some ⟨q.m, 0, none⟩), .int .i64 c, undef, undef, .slice none 0 0, .pointer (some ⟨L, 0, none⟩), .int .i64 y, .pointer (some ⟨q.m, 0, none⟩), .bool true, .bool false, .bool false, .int .i64 c, .bool true, .bool false, .bool false, .pointer (some ⟨q.m, 0, none⟩), .int .i64 c, .func (.func 109) #[] #[.pointer (some ⟨L + 1, 0, none⟩), .pointer (some ⟨L + 1 + 1, 0, none⟩)], .int .i64 y, undef, undef, undef, undef, undef], defers := [] })
    (fun y a' A B hh _ => hh) ?assign ?body ?done ?stop
  case hI => exact fun s A B ⟨hM, hF, v, hL, hR, hO⟩ hf => ⟨hEM A B _ hM hf (fun k hk => .inr (by simp at hk; omega)), hF.step hf hmem, v, hL.fr hf (hnb _ (by omega)), own_hi hR hO hf (fun k hk => by simp at hk; omega), hO⟩
  case hIs => exact fun s A B ⟨hM, hF, v, hL, hR, hO⟩ hs => ⟨⟨hs.2, hM.bm.fr hs.1 (hq _ (by omega)), hM.bc.fr hs.1 (hq _ (by omega))⟩, hF.trans hs.1, v, hL.fr hs.1 (hq _ (by omega)), own_hi hR hO hs.1 (fun k hk => by have := hlt k hk; omega), hO⟩
  case assign =>
    rintro lo pre y W K hW hi hK
    gi_wp2
    exact hK _ _ (Keep2.refl _ _) hi rfl
  case body =>
    rintro lo pre y a' W hW ⟨rest, hpr⟩ ⟨hM, hF, v, hL, hR, hO⟩ rfl
    have hc1 := hL.cell 0
    have hf1 := hL.frozen 0
    simp at hc1
    have hpl : pre.length + 1 ≤ 64 := by rw [hpr] at hll; simp at hll; omega
    have hbw : w.heap.size ≤ W.heap.size := hF.size
    have HL := Lib.hid hL
    have HM := Lib.hid hM
    have HF := Lib.hid hF
    have HO := Lib.hid hO
    clear hL hM hF hO hpr bL bM bC fr0 hT0
    have HKEY := Lib.hid (fun (o : Oper) (a : Act) (ops : Array Oper) (rest : List Oper) (Q : Exit → Act → World → Prop) (h0 : o.guard = none) (s x : Operand) (h3 : o.op = .call { callee := .builtin .append, args := #[s, x], argTypes := #[59, 59] }) (h4 : a.eval s = v) (h5 : a.eval x = .slice (some ⟨W.heap.size, 0, none⟩) 1 1) =>
      wpListIn_append_own_at (F := Fence.wide.inRound lo) (nF := n - 1 - 1) (P := Tryd.prog) (ops := ops) (rest := rest) (Q := Q) (w := W.alloc (.cells #[.int .i64 y] 3)) h0 s x 59 h3 w.heap.size 3 i0 (.int .i64 0) 1 8 Tryd.underlying59 hi hz0 hz1 hz2 rfl (by decide) v _ _ h4 (hR.alloc _) ⟨W.heap.size, 0, none⟩ 1 1 [.int .i64 y] h5 rfl (cells_new1 _ _ _) (by simp [Value.oneCell']) (by unfold maxLen; omega) (by omega) (by simp; omega))
    clear hi
    gi_wp2_with (gi_at_builtin; refine HKEY.out _ _ _ _ _ rfl _ _ rfl rfl rfl ?_; intro v' w1 hown' hgrow _ hob; obtain ⟨g', cap', rfl⟩ := ownsRow_succ hown'; have hfg := fr_grown hgrow; have hL1 := HL.out.fr hfg (fun hm => by have := HO.out L (ownS_mem hm); omega); have hc1 : w1.cell? ⟨L, 0, none⟩ = some v := hL1.cell 0; have hf1 := hL1.frozen 0)
    have hNL : L < W0.heap.size := by omega
    have hfW : Fr (L :: ownS v) W (w1.setCell ⟨L, 0, none⟩ (.slice (some ⟨g', 0, none⟩) (pre.length + 1) cap')) := (hfg.mono (S' := L :: ownS v) (fun k hk => .inl (List.mem_cons_of_mem _ hk))).setCell (.inl (by simp)) _
    have hSm : ∀ k ∈ L :: ownS v, k = L ∨ W0.heap.size + 1 < k := fun k hk => by
      rcases List.mem_cons.1 hk with rfl | hk
      · exact .inl rfl
      · exact .inr (HO.out k (ownS_mem hk))
    refine ⟨hfW.keep2 hW ⟨fun hm => by have := hSm _ hm; omega, fun hm => by have := hSm _ hm; omega⟩, hEM W _ _ HM.out hfW (fun k hk => by have := hSm k hk; omega), HF.out.step hfW (fun k hk => by have := hSm k hk; exact .inr (by omega)), _, by simpa using hL1.set 0 (.slice (some ⟨g', 0, none⟩) (pre.length + 1) cap'), ?_, fun g hg => ?_⟩
    · have := own_set hown' hL1 (by decide) 0 (.slice (some ⟨g', 0, none⟩) (pre.length + 1) cap')
      rw [List.length_append, List.length_singleton]
      have e : intC (pre ++ [y]) = intC pre ++ [.int .i64 y] := by simp [intC]
      rw [e]
      exact this
    · rcases hob with h | h
      · rw [hg] at h; exact HO.out g h.symm
      · rw [hg] at h
        injection h with h
        rw [h, World.size_alloc]
        omega
  case done =>
    rintro D xs W hD hxs ⟨hM, hF, v, hL, hR, hO⟩ hK
    have hc1 := hL.cell 0
    simp at hc1
    gi_wp2
    refine ⟨by simp, .inl ⟨_, _, rfl, run_takeDeferred (w := W) hK, ?_⟩⟩
    have hfp : Fr [D] W (W.putObj D (.deferred none)) := Fr.putObj _ _ (by simp)
    subst hxs
    refine ⟨_, results_tmp rfl _ _ _, v, rfl, ownsRow_putObj hR (.deferred none) hK rfl, hM.m.fr hfp (fun k hk hm => ?_) (fun k hk hm => ?_), hF.step hfp (by simp; omega)⟩
    · simp at hm; subst hm; exact hq _ (by omega) hk
    · simp at hm; omega
  case stop =>
    rintro D cd pre W hD _ hh hK
    exact hh.elim
end Go.Proofs.YtcagljjbiodcoaaDoor
