/- ref12: a memory of the document: its parts. -/
import Derived.Test.YtgoogihfggndpaaGreatDoorZa
import Derived.Test.YtgoogihfggndpaaGreatDoorKT
import Derived.Test.YtgoogihfggndpaaGreatDoorX10
import Derived.Test.YtgoogihfggndpaaGreatDoorW11t
import Derived.Test.YtgoogihfggndpaaGreatDoorL11
import Derived.Test.YtgoogihfggndpaaGreatDoorGJ
import Derived.Test.YtgoogihfggndpaaGreatDoorLD
namespace Go.Proofs.YtgoogihfggndpaaGreatDoor
set_option linter.unusedVariables false
set_option linter.unusedSimpArgs false
open Go.RowKit

section
variable {w w' : World}
set_option maxHeartbeats 1000000 in
theorem xsize12 (a s : Nat) (h : Cfg a s) : Calls Tryz.prog 49 #[.agg #[.int .i64 a, .int .i64 s]] w fun e w' => e = .returned (.int .i64 (lsize a s)) ∧ Fr [] w w' := by
  have hr := fun W => xright9 (w := W) a s h
  have hb := fun W => xbase9 (w := W) a s h
  have F0 := Lib.hid ((Fr.refl [] w).alloc (.cells #[.int .i64 a, .int .i64 s] 23))
  have B0 := Lib.hid (Blk.new w 23 #[.int .i64 a, .int .i64 s])
  have hz := lsize_le a s h
  have hE : lsize a s = lbase a s + 1024 * a := rfl
  have ha := h.a2
  rw [hE] at hz ⊢
  generalize lbase a s = b at *
  have w1 : IntKind.i64.wrap (1024 * (a : Int)) = 1024 * (a : Int) := IntWalk.i64_in _ (by omega)
  have w2 : IntKind.i64.wrap ((b : Int) + 1024 * (a : Int)) = ((b + 1024 * a : Nat) : Int) := by rw [IntWalk.i64_in _ (by omega)]; omega
  clear h hE
  go_enter Tryz.func49, Tryz.ntmps49
  go_wp2_with fail
  with_reducible refine (hr _).mono ?_
  rintro e w1 ⟨rfl, f1⟩
  have B1 := Lib.hid (B0.out.fr f1 (by simp))
  have F1 := Lib.hid (F0.out.trans f1)
  have d0 := B1.out.cell 0
  have d1 := B1.out.cell 1
  simp at d0 d1
  have hY : w1.drew.cell? ⟨w.heap.size, 0, none⟩ = some (.int .i64 a) ∧ w1.drew.cell? ⟨w.heap.size, 1, none⟩ = some (.int .i64 s) := ⟨B1.out.drew.cell 0, B1.out.drew.cell 1⟩
  clear f1
  go_wp2_with fail
  refine wp_region_held_drew (S := fun W => W.cell? ⟨w.heap.size, 0, none⟩ = some (.int .i64 a) ∧ W.cell? ⟨w.heap.size, 1, none⟩ = some (.int .i64 s)) (by kernel_rfl) (hY) (fun yH => ?_)
  refine tkY 0 yH (h := ?_)
  refine tkY 2 yH (h := ?_)
  refine tkY 3 yH (h := ?_)
  refine tkY 4 yH (h := ?_)
  refine wpAnyH_ready (rs := [1]) (by kernel_rfl) (by simp) ?_
  refine AllReadyH.cons (o := ?ooa4) ?hia4 (fun K hK => ?hca4) AllReadyH.nil
  case hia4 => (simp only [List.getElem?_toArray, List.getElem?_cons_zero, List.getElem?_cons_succ]; rfl)
  go_simp
  with_reducible refine (hb _).mono ?_
  rintro e w2 ⟨rfl, f2⟩
  have F2 := Lib.hid (F1.out.drew.trans f2)
  have B2 := Lib.hid (B1.out.drew.fr f2 (by simp))
  have hY := And.intro (B2.out.cell 0) (B2.out.cell 1)
  clear f2
  go_wp2_with fail
  refine hK.out _ _ (hY) (fun yH => ?_)
  clear hK K
  try simp only [Act.put, List.setIfInBounds_toArray, List.set_cons_zero, List.set_cons_succ]
  refine tkY 5 yH (h := ?_)
  refine tkY 6 yH (h := ?_)
  refine wpAnyH_done (by kernel_rfl) ?_ _
  go_wp2_with fail
  go_ret
  exact ⟨rfl, F2.out⟩
theorem exp4_markR (ks : List Nat) (r : Rn) (h1 : r.1 % 4 = 0) (h2 : r.2.1 % 4 = 0) : exp4 (markR ks r) = setR (exp4 ks) r.1 (r.1 + r.2.1) r.2.2 := by
  unfold markR
  rw [exp4_setR, show 4 * (r.1 / 4) = r.1 by omega, show 4 * ((r.1 + r.2.1) / 4) = r.1 + r.2.1 by omega]
theorem xmarkR {pw bw : Nat} {ks : List Nat} {lk ft : Int} (h : IsX w pw bw (exp4 ks) lk ft) (r : Rn) (hr : RunOk (4 * ks.length) r) : Calls Tryz.prog 48 #[.pointer (some ⟨pw, 0, none⟩), .int .i64 r.1, .int .i64 r.2.1, .int .i64 r.2.2] w fun e w' => e = .returned (.int .i64 0) ∧ IsX w' pw bw (exp4 (markR ks r)) lk ft ∧ Fr [bw] w w' := by
  obtain ⟨r1, r2, r3, r4⟩ := hr
  rw [exp4_markR ks r r1 r2]
  exact xmark_ok w pw bw (exp4 ks) lk ft r.1 r.2.1 r.2.2 h (by rw [exp4_len]; omega) r4 r1 r2
/-- An arena of the document, apart from blocks. -/
def XA (w : World) (p : Nat) (l : List Nat) (bad : List Nat) : Prop := ∃ g cap, Blk w p 159 #[.slice (some ⟨g, 0, none⟩) l.length cap] ∧ RowB w g cap l ∧ (∀ b ∈ l, b < 256) ∧ 1 ≤ l.length ∧ l.length ≤ 1048576 ∧ p ∉ bad ∧ g ∉ bad
theorem XA.fr {p : Nat} {l bad S : List Nat} (h : XA w p l bad) (hf : Fr S w w') (hS : ∀ k ∈ S, k ∈ bad) : XA w' p l bad := by
  obtain ⟨g, cap, h1, h2, h3, h4, h5, h6, h7⟩ := h
  exact ⟨g, cap, h1.fr hf (fun hm => h6 (hS _ hm)), h2.fr hf (fun hm => h7 (hS _ hm)), h3, h4, h5, h6, h7⟩
theorem XA.toR {p : Nat} {l bad : List Nat} (h : XA w p l bad) : ∃ B, B ≤ w.heap.size ∧ IsXR w B p l := by
  obtain ⟨g, cap, h1, h2, h3, h4, h5, h6, h7⟩ := h
  have := h1.lt
  exact ⟨min p g, by omega, by omega, ⟨g, cap, by omega, h1, h2⟩, h3, h4, h5⟩
theorem XA.of {B p : Nat} {l bad : List Nat} (h : IsXR w B p l) (hb : ∀ k ∈ bad, w.heap.size ≤ k ∨ k < B) : XA w p l bad := by
  obtain ⟨h0, ⟨g, cap, h1, h2, h3⟩, h4, h5, h6⟩ := h
  have a1 := h2.lt
  have a2 := h3.lt
  exact ⟨g, cap, h2, h3, h4, h5, h6, fun hm => by have := hb p hm; omega, fun hm => by have := hb g hm; omega⟩
end
end Go.Proofs.YtgoogihfggndpaaGreatDoor
