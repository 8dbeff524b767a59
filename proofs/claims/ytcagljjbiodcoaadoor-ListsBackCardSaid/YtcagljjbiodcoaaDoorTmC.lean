/- A typed memory: contracts of Root, SetRoot, Config, Faults. -/
import Derived.Test.YtcagljjbiodcoaaDoorTm
namespace Go.Proofs.YtcagljjbiodcoaaDoor
set_option linter.unusedVariables false
open Go.RowKit

structure IsT (w : World) (q : MH) (t : TM) : Prop where
  ok : t.Ok
  m : IsM w q t.ms
  tab : TabM w
  hi : ∀ k ∈ q.blocks, 6 ≤ k
section
variable {w w' : World} {q : MH} {t : TM}
theorem IsT.fr {S : List Nat} (h : IsT w q t) (hf : Fr S w w') (hS : ∀ k ∈ q.blocks, k ∉ S) (hT : ∀ k, k < 6 → k ∉ S) : IsT w' q t := ⟨h.ok, h.m.fr hf hS, ⟨fun i => (hf.cell (p := ⟨5, i, none⟩) (by have := h.tab.size; simp; omega) (by simpa using hT _ (by decide))).trans (h.tab.cls i),
   fun i => (hf.cell (p := ⟨0, i, none⟩) (by have := h.tab.size; simp; omega) (by simpa using hT _ (by decide))).trans (h.tab.fld i), Nat.le_trans h.tab.size hf.size⟩, h.hi⟩
theorem IsT.fr0 (h : IsT w q t) (hf : Fr [] w w') : IsT w' q t := h.fr hf (by simp) (by simp)
theorem IsT.alloc (h : IsT w q t) (o : Obj) : IsT (w.alloc o) q t := h.fr0 ((Fr.refl [] w).alloc o)
theorem IsT.drewN (h : IsT w q t) (n : Nat) : IsT (w.drewN n) q t := h.fr0 ((Fr.refl [] w).drewN n)
theorem IsT.drew (h : IsT w q t) : IsT w.drew q t := h.fr0 (Fr.refl [] w).drew
theorem IsT.lt (h : IsT w q t) : ∀ k ∈ q.blocks, k < w.heap.size := h.m.lt
end
theorem Fr.pw {q : MH} {w w' : World} (h : Fr [q.pw] w w') : Fr q.blocks w w' := h.mono (fun _ hm => by simp at hm; simp [MH.blocks, hm])
theorem Fr.pwga {q : MH} {w w' : World} (h : Fr [q.pw, q.ga] w w') : Fr q.blocks w w' := h.mono (fun _ hm => by simp at hm; rcases hm with e | e <;> simp [MH.blocks, e])
theorem Fr.nil {S : List Nat} {w w' : World} (h : Fr [] w w') : Fr S w w' := h.mono (fun _ hm => by simp at hm)

theorem tload {w : World} {q : MH} {t : TM} (h : IsT w q t) {x k kind v : Nat} (ha : At t x k kind v) :
    Calls Tryd.prog 69 #[.pointer (some ⟨q.m, 0, none⟩), .int .i64 x, .int .i64 k, .int .i64 kind] w fun e w' => e = .returned (.int .u64 v) ∧ IsT w' q t ∧ Fr q.blocks w w' := by
  refine (mload w q t.ms h.m x k kind).mono fun e w' ⟨he, hm, hf⟩ => ?_
  rw [ha.ld] at he
  rw [ha.look] at hm
  exact ⟨he, ⟨h.ok, hm, h.tab.fr hf.pw h.hi, h.hi⟩, hf.pw⟩
theorem tstore {w : World} {q : MH} {t t' : TM} (h : IsT w q t) {x k kind v v' : Nat} (ha : At t x k kind v) (hv : v' < 256 ^ k) (hok : t'.Ok) (hs : t.ms.sto x k kind v' = t'.ms) :
    Calls Tryd.prog 60 #[.pointer (some ⟨q.m, 0, none⟩), .int .i64 x, .int .i64 k, .int .i64 kind, .int .u64 v'] w fun e w' => e = .returned (.bool true) ∧ IsT w' q t' ∧ Fr q.blocks w w' := by
  have h64 : v' < 18446744073709551616 := by
    have : 256 ^ k ≤ 256 ^ 8 := Nat.pow_le_pow_right (by decide) (by rcases ha.wid with e | e | e | e <;> omega)
    omega
  refine (mstore w q t.ms h.m x k kind v' h64).mono fun e w' ⟨he, hm, hf⟩ => ?_
  rw [ha.stB hv] at he
  rw [hs] at hm
  exact ⟨he, ⟨hok, hm, h.tab.fr hf.pwga h.hi, h.hi⟩, hf.pwga⟩
theorem troot {w : World} {q : MH} {t : TM} (h : IsT w q t) (f : Nat) (hf : f < 21) (x : Int) (hx : x = f) :
    Calls Tryd.prog 54 #[.pointer (some ⟨q.m, 0, none⟩), .int .i64 x] w fun e w' => e = .returned (.int .u64 (t.rt f)) ∧ IsT w' q t ∧ Fr q.blocks w w' := by
  have ha := at_rt h.ok f hf
  subst hx
  have hl : t.ms.ld (fldA f) (fldW f) 2 = t.rt f := ha.ld
  have hk : t.ms.look (fldA f) (fldW f) 2 = t.ms := ha.look
  refine (mroot w h.tab q t.ms h.m f hf).mono fun e w' ⟨he, hm, hf⟩ => ?_
  rw [hl] at he
  rw [hk] at hm
  exact ⟨he, ⟨h.ok, hm, h.tab.fr hf.pw h.hi, h.hi⟩, hf.pw⟩
theorem tsetroot {w : World} {q : MH} {t : TM} (h : IsT w q t) (f : Nat) (hf : f < 21) (v : Nat) (hv : v < 256 ^ fldW f) (x : Int) (hx : x = f) (u : Int) (hu : u = v) :
    Calls Tryd.prog 53 #[.pointer (some ⟨q.m, 0, none⟩), .int .i64 x, .int .u64 u] w fun e w' => e = .returned (.bool true) ∧ IsT w' q (t.setRt f v) ∧ Fr q.blocks w w' := by
  have ha := at_rt h.ok f hf
  have h64 : v < 18446744073709551616 := by
    rcases fldW_pow f with e | e
    · rw [e] at hv; exact Nat.lt_trans hv (by decide)
    · rw [e] at hv; exact hv
  subst hx hu
  refine (msetroot w h.tab q t.ms h.m f hf v h64).mono fun e w' ⟨he, hm, hf'⟩ => ?_
  have hb : t.ms.stB (fldA f) (fldW f) 2 v = true := ha.stB hv
  rw [hb] at he
  rw [setRt_sto h.ok f v hf hv] at hm
  exact ⟨he, ⟨setRt_ok h.ok f v hv, hm, h.tab.fr hf'.pwga h.hi, h.hi⟩, hf'.pwga⟩
theorem tconfig {w : World} {q : MH} {t : TM} (h : IsT w q t) : Calls Tryd.prog 52 #[.pointer (some ⟨q.m, 0, none⟩)] w fun e w' => e = .returned (cfgV t.a t.s) ∧ Fr [] w w' := mconfig w q t.ms h.m
theorem tfaults {w : World} {q : MH} {t : TM} (h : IsT w q t) : Calls Tryd.prog 22 #[.pointer (some ⟨q.m, 0, none⟩)] w fun e w' => e = .returned (.int .i64 t.ft) ∧ Fr [] w w' := mfaults w q t.ms h.m
end Go.Proofs.YtcagljjbiodcoaaDoor
