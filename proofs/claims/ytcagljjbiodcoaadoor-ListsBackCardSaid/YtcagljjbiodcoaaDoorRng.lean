/- Range over a function whose steps write memory: what holds ahead of a round may turn by the iterator's steps. -/
import Derived.Test.YtcagljjbiodcoaaDoorBase
import Derived.RangeFuncNested
namespace Go.Proofs.YtcagljjbiodcoaaDoor
set_option linter.unusedVariables false
open Go.RowKit

/-- The loop's two own blocks lie as they lay. -/
def Keep2 (b : Nat) (W W' : World) : Prop := W'.heap[b]? = W.heap[b]? ∧ W'.heap[b + 1]? = W.heap[b + 1]?
theorem Keep2.refl (b : Nat) (W : World) : Keep2 b W W := ⟨rfl, rfl⟩
theorem Keep2.trans {b : Nat} {A B C : World} (h : Keep2 b A B) (k : Keep2 b B C) : Keep2 b A C := ⟨k.1.trans h.1, k.2.trans h.2⟩
theorem Fr.keep2 {S : List Nat} {b : Nat} {W W' : World} (h : Fr S W W') (h1 : b + 1 < W.heap.size) (hS : b ∉ S ∧ b + 1 ∉ S) : Keep2 b W W' := ⟨h.block b (by omega) hS.1, h.block (b + 1) h1 hS.2⟩
theorem Fr.putObj {S : List Nat} {W : World} (l : Nat) (o : Obj) (hl : l ∈ S) : Fr S W (W.putObj l o) :=
  ⟨rfl, rfl, rfl, by simp [World.putObj], fun k hk hn => World.putObj_heap_other (fun e => hn (e ▸ hl))⟩

def rngPost {α : Type} (b : Nat) (I : List α → World → Prop) (Ix : Code → List α → World → Prop) (xs : List α) (W : World) : Exit → Act → World → Prop
  | .normal, _, W' => Keep2 b W W' ∧ I xs W'
  | .ret, _, W' => Keep2 b W W' ∧ Ix .ret xs W'
  | .exit id, _, W' => Keep2 b W W' ∧ Ix (.exit id) xs W'
  | .goto t, _, W' => Keep2 b W W' ∧ Ix (.goto t) xs W'
  | .panic _, _, _ => False
  | .outgrown, _, _ => False

variable {F : Fence} {n : Nat} {P : Program}
/-- What a function that is ranged over must answer. -/
def RngIt {α : Type} (F : Fence) (n : Nat) (P : Program) (g : Nat) (lb : Array Value) (encs : α → Array Value) (M : World → Prop) (Step : World → World → Prop) (Ok : List α → α → Prop) (S Sp : List α → Prop) : Prop :=
  ∀ (l : Nat) (J Jx : List α → World → Prop) (W : World), (∀ s A, J s A → M A) → (∀ s A B, J s A → Step A B → J s B) → (∀ s A B, Jx s A → Step A B → Jx s B) →
    (∀ pre x A, Ok pre x → J pre A → YieldAt F (n - 1) P l (encs x) A fun e B => (e = .returned (.bool true) ∧ J (pre ++ [x]) B) ∨ (e = .returned (.bool false) ∧ Jx (pre ++ [x]) B)) →
    J [] W → CallsIn F n P g (#[.func (.yield l) #[] #[]] ++ lb) W fun e B => (∃ v, e = .returned v) ∧ ((∃ xs, S xs ∧ J xs B) ∨ (∃ pre, Sp pre ∧ Jx pre B))

theorem wpIn_rng {α : Type} {g : Operand} {ps : Array Tmp} {assign body : Code} {Q : Exit → Act → World → Prop} {a : Act} {w : World}
    (hro : F.round = none) (h1 : 1 ≤ n) {gf : Nat} {lb : Array Value} (hg : a.eval g = .func (.func gf) #[] lb) (hFg : F.fn gf) (eg : ∀ args w, (callFunc gf args).run P w = .ok (.enter gf args) w)
    {encs : α → Array Value} {M : World → Prop} {Step : World → World → Prop} {Ok : List α → α → Prop} {S Sp : List α → Prop} (hseq : RngIt F (n - 1) P gf lb encs M Step Ok S Sp) (hps : ∀ x, (encs x).size = ps.size)
    (hStep : ∀ A B, w.heap.size + 1 < A.heap.size → M A → Step A B → Keep2 w.heap.size A B ∧ A.heap.size ≤ B.heap.size)
    (I : List α → World → Prop) (Ix : Code → List α → World → Prop) (hIM : ∀ s A, I s A → M A) (hXM : ∀ c s A, Ix c s A → M A)
    (hI : ∀ s A B, I s A → Fr [w.heap.size, w.heap.size + 1] A B → I s B) (hIx : ∀ c s A B, Ix c s A → Fr [w.heap.size, w.heap.size + 1] A B → Ix c s B)
    (hIs : ∀ s A B, I s A → Step A B → I s B) (hXs : ∀ c s A B, Ix c s A → Step A B → Ix c s B) (h0 : I [] w)
    (Ax : α → Act → World → Prop) (hAx : ∀ x a' A B, Ax x a' A → Fr [w.heap.size, w.heap.size + 1] A B → Ax x a' B)
    (hassign : ∀ (l : Nat) (pre : List α) (x : α) (W : World) (K : Act → World → Prop), w.heap.size + 1 < W.heap.size → I pre W → (∀ a' W', Keep2 w.heap.size W W' → I pre W' → Ax x a' W' → K a' W') →
      assign.wpIn (F.inRound l) (n - 1 - 1) P (Exit.then K (fun _ _ _ => False)) { tmps := (ps.zip (encs x)).foldl (fun t (p, v) => t.setIfInBounds p v) a.tmps, defers := [] } W)
    (hbody : ∀ (l : Nat) (pre : List α) (x : α) (a' : Act) (W : World), w.heap.size + 1 < W.heap.size → Ok pre x → I pre W → Ax x a' W → body.wpIn (F.inRound l) (n - 1 - 1) P (rngPost w.heap.size I Ix (pre ++ [x]) W) a' W)
    (hdone : ∀ (D : Nat) (xs : List α) (W : World), w.heap.size ≤ D → S xs → I xs W → W.heap[D]? = some (.deferred (some [])) → Q .normal { a with defers := { target := .collected D, args := #[] } :: a.defers } W)
    (hstop : ∀ (D : Nat) (c : Code) (pre : List α) (W : World), w.heap.size ≤ D → Sp pre → Ix c pre W → W.heap[D]? = some (.deferred (some [])) → c.wpIn F n P Q { a with defers := { target := .collected D, args := #[] } :: a.defers } W) :
    (Code.rangeFunc g ps assign body).wpIn F n P Q a w := by
  refine wpIn_rangeFunc fun fn hfn => ?_
  rw [hro]
  generalize hb : w.heap.size = b at *
  obtain ⟨rec, hrec⟩ : ∃ rec : LoopState → Option Code → Loop, rec = fun st pe => { state := st, pending := pe, fn, tmps := a.tmps, params := ps, assign, body, defers := b } := ⟨_, rfl⟩
  have e0 : (Instr.enterLoop fn a.tmps ps assign body none).run P w = .ok (b + 1, [{ target := .collected b, args := #[] }]) ((w.alloc (.deferred (some []))).alloc (.loop (rec .ready none))) := by
    rw [hrec, ← hb]; exact run_enterLoop_outer _ _ _ _ _
  have hf0 : Fr [b, b + 1] w ((w.alloc (.deferred (some []))).alloc (.loop (rec .ready none))) := ((Fr.refl _ _).alloc _).alloc _
  have hL0 : ((w.alloc (.deferred (some []))).alloc (.loop (rec .ready none))).heap[b + 1]? = some (.loop (rec .ready none)) := by
    have := World.alloc_heap_new (w.alloc (.deferred (some []))) (.loop (rec .ready none)); rwa [World.size_alloc, hb] at this
  have hD0 : ((w.alloc (.deferred (some []))).alloc (.loop (rec .ready none))).heap[b]? = some (.deferred (some [])) := by
    rw [← hb]; exact (Below.heap_alloc _ _ _ (by simp)).trans (World.alloc_heap_new w _)
  generalize (w.alloc (.deferred (some []))).alloc (.loop (rec .ready none)) = W1 at *
  have lt_of : ∀ {A : World} {o : Obj}, A.heap[b + 1]? = some o → b + 1 < A.heap.size := fun h => (Array.getElem?_eq_some_iff.1 h).1
  refine ⟨b + 1, [{ target := .collected b, args := #[] }], W1, { target := .fn (.func gf) lb, args := #[.func (.yield (b + 1)) #[] #[]] }, W1, gf,
    #[.func (.yield (b + 1)) #[] #[]] ++ lb, W1, e0, ?_, ?_, ?_, fun _ => h1, ?_⟩
  · simp only [resolve, hg]
    simp [go_sem]
  · intro f' hf'; simp [Target.leads] at hf'; subst hf'; exact hFg
  · simp [invoke, go_sem, eg]
  refine (hseq (b + 1)
    (fun s A => I s A ∧ A.heap[b + 1]? = some (.loop (rec .ready none)) ∧ A.heap[b]? = some (.deferred (some [])))
    (fun s A => ∃ c, Ix c s A ∧ A.heap[b + 1]? = some (.loop (rec .done (some c))) ∧ A.heap[b]? = some (.deferred (some [])))
    W1 (fun s A h => hIM s A h.1)
    (fun s A B ⟨hi, hl, hd⟩ hs => by
      obtain ⟨k, _⟩ := hStep A B (lt_of hl) (hIM s A hi) hs
      exact ⟨hIs s A B hi hs, k.2.trans hl, k.1.trans hd⟩)
    (fun s A B ⟨c, hi, hl, hd⟩ hs => by
      obtain ⟨k, _⟩ := hStep A B (lt_of hl) (hXM c s A hi) hs
      exact ⟨c, hXs c s A B hi hs, k.2.trans hl, k.1.trans hd⟩)
    ?_ ⟨hI _ _ _ h0 hf0, hL0, hD0⟩).mono ?_
  · rintro pre x A hok ⟨hi, hl, hd⟩
    have hy := run_yield (P := P) (args := encs x) hl (by rw [hrec]; exact hps x)
    rw [hrec] at hy
    refine ⟨fn, _, assign, body, hy, roundIn_of_wpIn hfn (hassign _ pre x A _ (lt_of hl) hi ?_)⟩
    intro a' A2 k2 hi2 hax
    have hl2 := k2.2.trans hl
    have hd2 := k2.1.trans hd
    refine ⟨_, run_beginRound hl2 (by rw [hrec]), ?_⟩
    have fp : ∀ (A : World) (o : Obj), Fr [b, b + 1] A (A.putObj (b + 1) o) := fun A o => Fr.putObj _ _ (by simp)
    have hl3 : (A2.putObj (b + 1) (.loop { rec .ready none with state := .busy })).heap[b + 1]? = some (.loop { rec .ready none with state := .busy }) := World.putObj_heap_same (lt_of hl2)
    have hd3 : (A2.putObj (b + 1) (.loop { rec .ready none with state := .busy })).heap[b]? = some (.deferred (some [])) := (World.putObj_heap_other (by omega)).trans hd2
    refine wpIn_mono (hbody _ pre x a' _ (lt_of hl3) hok (hI _ _ _ hi2 (fp _ _)) (hAx _ _ _ _ hax (fp _ _))) ?_
    generalize A2.putObj (b + 1) (.loop { rec .ready none with state := .busy }) = A3 at *
    have fin : ∀ (jump : Option Code) (A4 : World), Keep2 b A3 A4 →
        (Instr.endRound (b + 1) jump).run P A4 = .ok (.bool jump.isNone) (A4.putObj (b + 1) (.loop (rec (if jump.isNone then .ready else .done) jump))) ∧
        (A4.putObj (b + 1) (.loop (rec (if jump.isNone then .ready else .done) jump))).heap[b + 1]? = some (.loop (rec (if jump.isNone then .ready else .done) jump)) ∧
        (A4.putObj (b + 1) (.loop (rec (if jump.isNone then .ready else .done) jump))).heap[b]? = some (.deferred (some [])) := fun jump A4 k => by
      have hl4 := k.2.trans hl3
      have hr := run_endRound (P := P) jump hl4
      rw [hrec] at hr ⊢
      exact ⟨hr, World.putObj_heap_same (lt_of hl4), (World.putObj_heap_other (by omega)).trans (k.1.trans hd3)⟩
    rintro e a3 A4 hp
    cases e with
    | normal =>
      obtain ⟨k, h⟩ := hp
      obtain ⟨r1, r2, r3⟩ := fin none A4 k
      exact ⟨_, _, r1, .inl ⟨rfl, hI _ _ _ h (fp _ _), r2, r3⟩⟩
    | ret =>
      obtain ⟨k, h⟩ := hp
      obtain ⟨r1, r2, r3⟩ := fin (some .ret) A4 k
      exact ⟨_, _, r1, .inr ⟨rfl, .ret, hIx _ _ _ _ h (fp _ _), r2, r3⟩⟩
    | exit id =>
      obtain ⟨k, h⟩ := hp
      obtain ⟨r1, r2, r3⟩ := fin (some (.exit id)) A4 k
      exact ⟨_, _, r1, .inr ⟨rfl, .exit id, hIx _ _ _ _ h (fp _ _), r2, r3⟩⟩
    | goto t =>
      obtain ⟨k, h⟩ := hp
      obtain ⟨r1, r2, r3⟩ := fin (some (.goto t)) A4 k
      exact ⟨_, _, r1, .inr ⟨rfl, .goto t, hIx _ _ _ _ h (fp _ _), r2, r3⟩⟩
    | panic ch => exact hp.elim
    | outgrown => exact hp.elim
  · have fp : ∀ (A : World) (o : Obj), Fr [b, b + 1] A (A.putObj (b + 1) o) := fun A o => Fr.putObj _ _ (by simp)
    rintro e A ⟨⟨v, rfl⟩, ⟨xs, hS, hi, hl, hd⟩ | ⟨pre, hSp, c, hi, hl, hd⟩⟩
    · have hr := run_endLoop (P := P) hl (by rw [hrec]; simp)
      rw [hrec] at hr
      exact ⟨none, _, hr, hdone b xs _ (Nat.le_refl _) hS (hI _ _ _ hi (fp _ _)) ((World.putObj_heap_other (by omega)).trans hd)⟩
    · have hr := run_endLoop (P := P) hl (by rw [hrec]; simp)
      rw [hrec] at hr
      exact ⟨some c, _, hr, hstop b c pre _ (Nat.le_refl _) hSp (hIx _ _ _ _ hi (fp _ _)) ((World.putObj_heap_other (by omega)).trans hd)⟩
end Go.Proofs.YtcagljjbiodcoaaDoor
