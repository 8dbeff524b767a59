/- A config that came in. -/
import Derived.Test.YtgoogihfggndpaaGreatDoorOpen13
namespace Go.Proofs.YtgoogihfggndpaaGreatDoor
open Go.ChangeShapes Go.WideShapes Go.ChangeAt Go.RowKit
set_option linter.unusedVariables false
set_option linter.unusedSimpArgs false

set_option maxRecDepth 100000 in
theorem open_cfg {H : Type} {enc : TypeId × Value → H} {w : World} {base b0 : Nat} {spare : Nat → Bool} {held : Bool} {r : Reach} {v : Value} {d : DataW H} {p : List MemPlace}
    (hv : Value.okWide Tryz.prog w r b0 23 v) (h : DataW.Trod enc Tryz.prog w base spare held 23 v d p) : ∃ a s : Int, v = .agg #[.int .i64 a, .int .i64 s] := by
  obtain ⟨cs, rfl, hsz⟩ := okWide_struct Tryz.underlying23 hv
  have h2 : cs.size = 2 := hsz.trans (by kernel_rfl)
  obtain ⟨c0, c1, rfl⟩ : ∃ c0 c1, cs = #[c0, c1] := by
    obtain ⟨l⟩ := cs
    match l, h2 with
    | [x, y], _ => exact ⟨x, y, rfl⟩
  obtain ⟨fuel, hf⟩ := h
  obtain ⟨ys, n, rfl, hx, hl, hyl, hp⟩ := DataW.trod_struct Tryz.underlying23 hf
  have hg : ∀ i, i < 2 → ∃ y, ys[i]? = some y := fun i hi => ⟨_, List.getElem?_eq_getElem (by rw [hyl]; exact hi)⟩
  have k1 : Tryz.prog.cellsOf 3 = 1 := by kernel_rfl
  obtain ⟨y0, e0⟩ := hg 0 (by decide)
  obtain ⟨y1, e1⟩ := hg 1 (by decide)
  have t0 := (hp 0 _ rfl).trans e0
  have t1 := (hp 1 _ rfl).trans e1
  simp only [Value.cells, k1, List.drop_succ_cons, List.drop_zero, List.take_succ_cons, List.take_zero] at t0 t1
  obtain ⟨q0, g0, _, w0⟩ := DataW.trod_int Tryz.underlying3 t0
  obtain ⟨q1, g1, _, w1⟩ := DataW.trod_int Tryz.underlying3 t1
  simp [k1] at g0 g1
  subst g0 g1
  exact ⟨q0, q1, rfl⟩
end Go.Proofs.YtgoogihfggndpaaGreatDoor
