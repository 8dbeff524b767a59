/- Several texts in one. -/
import Derived.Test.YtmemoopkgjgmiaaGreatDoorRows
import Derived.Test.YtmemoopkgjgmiaaGreatDoorKG
import Derived.Test.YtmemoopkgjgmiaaGreatDoorGA
import Derived.WalkKit
import Derived.ProofKit
import Derived.OpenShut
import Derived.ShutString
import Derived.ChangeOld
import Derived.Below
import Derived.Test.YtmemoopkgjgmiaaGreatDoorKT
/- Opening the acts and the block of layer 20's statements. -/
namespace Go.Proofs.YtmemoopkgjgmiaaGreatDoor
open Go.ChangeShapes Go.WideShapes Go.ChangeAt Go.RowKit
set_option linter.unusedVariables false
set_option linter.unusedSimpArgs false

theorem lit_u16 {n : Int} (h : (Lit.int .u16 n).wf = true) : ∃ k : Nat, n = k ∧ k < 65536 := by
  simp only [Lit.wf, IntKind.min, IntKind.max, IntKind.signed, IntKind.bits, Bool.and_eq_true, decide_eq_true_eq] at h
  simp at h
  exact ⟨n.toNat, by omega, by omega⟩
/-- An act. -/
structure A20 where
  k : Int
  n : Int
  b : RB
def A20.cells (d : A20) : List Value := [.int .i64 d.k, .int .i64 d.n, .int .i64 d.b.at_, .bool d.b.nd, .int .u32 d.b.nm, .int .u16 d.b.ty, .string (strOf d.b.lab), .int .u32 d.b.hs]
structure A20.Ok (d : A20) : Prop where
  k : -9223372036854775808 ≤ d.k ∧ d.k ≤ 9223372036854775807
  n : -9223372036854775808 ≤ d.n ∧ d.n ≤ 9223372036854775807
  b : d.b.Ok
/-- An act that lies from a place on. -/
def Row20 (w : World) (b o : Nat) (d : A20) : Prop := ∀ j, j < 8 → w.cell? ⟨b, o + j, none⟩ = d.cells[j]?
structure ActA20 (w : World) (a : Option Addr) (c : Nat) (l : List A20) : Prop where
  row : 0 < l.length → ∃ b off, a = some ⟨b, off, none⟩ ∧ b < w.heap.size ∧ ∀ i (h : i < l.length), Row20 w b (off + i * 8) l[i]
  each : ∀ d ∈ l, d.Ok
  len : l.length ≤ 9223372036854775807
theorem ActA20.fr {w w' : World} {a : Option Addr} {c : Nat} {l : List A20} {S : List Nat} (h : ActA20 w a c l) (hf : Fr S w w') (hS : ∀ k ∈ S, w.heap.size ≤ k) : ActA20 w' a c l := by
  refine ⟨fun h0 => ?_, h.each, h.len⟩
  obtain ⟨b, off, ha, hb, hr⟩ := h.row h0
  have hn : b ∉ S := fun hm => by have := hS b hm; omega
  exact ⟨b, off, ha, Nat.lt_of_lt_of_le hb hf.size, fun i hi j hj => (hf.cell (p := ⟨b, off + i * 8 + j, none⟩) hb hn).trans (hr i hi j hj)⟩
theorem strOf_of (s : ByteArray) : strOf (s.data.toList.map UInt8.toNat) = s := by
  unfold strOf
  rw [List.map_map]
  have : ∀ l : List UInt8, l.map (UInt8.ofNat ∘ UInt8.toNat) = l := fun l => by
    induction l with
    | nil => rfl
    | cons x l ih => simp [ih]
  rw [this]
theorem list6 {α : Type} {l : List α} (h : l.length = 6) : ∃ a b c d e f, l = [a, b, c, d, e, f] := by
  match l, h with
  | [a, b, c, d, e, f], _ => exact ⟨a, b, c, d, e, f, rfl⟩
theorem list8 {α : Type} {l : List α} (h : l.length = 8) : ∃ a b c d e f g i, l = [a, b, c, d, e, f, g, i] := by
  match l, h with
  | [a, b, c, d, e, f, g, i], _ => exact ⟨a, b, c, d, e, f, g, i, rfl⟩
section
variable {H : Type} {enc : TypeId × Value → H} {w : World} {base b0 : Nat} {spare : Nat → Bool} {held : Bool} {r : Reach} {v : Value} {d : DataW H} {p : List MemPlace}
set_option maxRecDepth 100000 in
theorem trod_rb {fuel : Nat} {cs : List Value} {x : DataW H × List MemPlace} (hf : DataW.trod enc Tryz.prog w base spare held fuel 33 cs = some x) : ∃ b : RB, cs = b.cells.toList ∧ b.Ok := by
  obtain ⟨ys, n, rfl, hx, hl, hyl, hp⟩ := DataW.trod_struct Tryz.underlying33 hf
  have hg : ∀ i, i < 6 → ∃ y, ys[i]? = some y := fun i hi => ⟨_, List.getElem?_eq_getElem (by rw [hyl]; exact hi)⟩
  have k0 : Tryz.prog.cellsOf 33 = 6 := by kernel_rfl
  have k1 : Tryz.prog.cellsOf 3 = 1 := by kernel_rfl
  have k2 : Tryz.prog.cellsOf 4 = 1 := by kernel_rfl
  have k3 : Tryz.prog.cellsOf 30 = 1 := by kernel_rfl
  have k4 : Tryz.prog.cellsOf 9 = 1 := by kernel_rfl
  have k5 : Tryz.prog.cellsOf 31 = 1 := by kernel_rfl
  rw [k0] at hl
  obtain ⟨c0, c1, c2, c3, c4, c5, rfl⟩ := list6 hl
  obtain ⟨y0, e0⟩ := hg 0 (by decide)
  obtain ⟨y1, e1⟩ := hg 1 (by decide)
  obtain ⟨y2, e2⟩ := hg 2 (by decide)
  obtain ⟨y3, e3⟩ := hg 3 (by decide)
  obtain ⟨y4, e4⟩ := hg 4 (by decide)
  obtain ⟨y5, e5⟩ := hg 5 (by decide)
  have t0 := (hp 0 _ rfl).trans e0
  have t1 := (hp 1 _ rfl).trans e1
  have t2 := (hp 2 _ rfl).trans e2
  have t3 := (hp 3 _ rfl).trans e3
  have t4 := (hp 4 _ rfl).trans e4
  have t5 := (hp 5 _ rfl).trans e5
  simp only [List.getElem_toArray, List.getElem_cons_zero, List.getElem_cons_succ, k1, k2, k3, k4, k5, List.drop_succ_cons, List.drop_zero, List.take_succ_cons, List.take_zero] at t0 t1 t2 t3 t4 t5
  obtain ⟨q0, g0, _, w0⟩ := DataW.trod_int Tryz.underlying3 t0
  obtain ⟨q1, g1, _⟩ := DataW.trod_bool Tryz.underlying4 t1
  obtain ⟨q2, g2, _, w2⟩ := DataW.trod_int Tryz.underlying30 t2
  obtain ⟨q3, g3, _, w3⟩ := DataW.trod_int Tryz.underlying31 t3
  obtain ⟨q4, g4, _, w4⟩ := DataW.trod_string Tryz.underlying9 t4
  obtain ⟨q5, g5, _, w5⟩ := DataW.trod_int Tryz.underlying30 t5
  simp at g0 g1 g2 g3 g4 g5
  subst g0 g1 g2 g3 g4 g5
  have z0 := lit_i64 w0
  obtain ⟨n2, rfl, z2⟩ := lit_u32 w2
  obtain ⟨n3, rfl, z3⟩ := lit_u16 w3
  obtain ⟨n5, rfl, z5⟩ := lit_u32 w5
  refine ⟨⟨q0, q1, n2, n3, q4.data.toList.map UInt8.toNat, n5⟩, ?_, ⟨z0, z2, z3, fun x hx => ?_, ?_, z5⟩⟩
  · show _ = [_, _, _, _, Value.string (strOf _), _]
    rw [strOf_of]
  · obtain ⟨y, _, rfl⟩ := List.mem_map.1 hx
    exact y.toNat_lt
  · rw [List.length_map]
    unfold maxLen at w4
    exact w4
set_option maxRecDepth 100000 in
theorem trod_a20 {fuel : Nat} {cs : List Value} {x : DataW H × List MemPlace} (hf : DataW.trod enc Tryz.prog w base spare held fuel 35 cs = some x) : ∃ d : A20, cs = d.cells ∧ d.Ok := by
  obtain ⟨ys, n, rfl, hx, hl, hyl, hp⟩ := DataW.trod_struct Tryz.underlying35 hf
  have hg : ∀ i, i < 3 → ∃ y, ys[i]? = some y := fun i hi => ⟨_, List.getElem?_eq_getElem (by rw [hyl]; exact hi)⟩
  have k0 : Tryz.prog.cellsOf 35 = 8 := by kernel_rfl
  have k1 : Tryz.prog.cellsOf 3 = 1 := by kernel_rfl
  have k2 : Tryz.prog.cellsOf 33 = 6 := by kernel_rfl
  rw [k0] at hl
  obtain ⟨c0, c1, c2, c3, c4, c5, c6, c7, rfl⟩ := list8 hl
  obtain ⟨y0, e0⟩ := hg 0 (by decide)
  obtain ⟨y1, e1⟩ := hg 1 (by decide)
  obtain ⟨y2, e2⟩ := hg 2 (by decide)
  have t0 := (hp 0 _ rfl).trans e0
  have t1 := (hp 1 _ rfl).trans e1
  have t2 := (hp 2 _ rfl).trans e2
  simp only [List.getElem_toArray, List.getElem_cons_zero, List.getElem_cons_succ, k1, k2, List.drop_succ_cons, List.drop_zero, List.take_succ_cons, List.take_zero] at t0 t1 t2
  obtain ⟨q0, g0, _, w0⟩ := DataW.trod_int Tryz.underlying3 t0
  obtain ⟨q1, g1, _, w1⟩ := DataW.trod_int Tryz.underlying3 t1
  obtain ⟨b, hb, ok⟩ := trod_rb t2
  simp at g0 g1
  subst g0 g1
  refine ⟨⟨q0, q1, b⟩, ?_, ⟨lit_i64 w0, lit_i64 w1, ok⟩⟩
  show _ = _ :: _ :: b.cells.toList
  rw [← hb]
set_option maxRecDepth 100000 in
theorem open_acts20 (hv : Value.okWide Tryz.prog w r b0 22 v) (h : DataW.Trod enc Tryz.prog w base spare held 22 v d p) : ∃ a c l, v = .slice a l.length c ∧ ActA20 w a c l := by
  obtain ⟨a0, len, cap, rfl⟩ := okWide_slice Tryz.underlying22 hv
  obtain ⟨fuel, hf⟩ := h
  rcases Go.Deep.open_slice Tryz.underlying22 hf with h0 | ⟨a, len', cap', m, n, D, Pl, hcs, hb, hl, hm, hmm, hx, hi⟩
  · have hcs := h0.1
    simp [Value.cells] at hcs
    obtain ⟨rfl, rfl, rfl⟩ := hcs
    exact ⟨none, 0, [], rfl, fun h => by simp at h, fun d hd => by simp at hd, by simp⟩
  · simp [Value.cells] at hcs
    obtain ⟨rfl, rfl, rfl⟩ := hcs
    by_cases h0 : len = 0
    · subst h0
      exact ⟨_, _, [], rfl, fun h => by simp at h, fun d hd => by simp at hd, by simp⟩
    obtain ⟨b, off, spot⟩ := a
    have k0 : Tryz.prog.cellsOf 35 = 8 := by kernel_rfl
    have hval0 : ∀ i, i < len → ∃ d : A20, d.Ok ∧ ∀ j, j < 8 → w.cell? (((⟨b, off, spot⟩ : Addr).add (i * 8)).add j) = d.cells[j]? := fun i him => by
      obtain ⟨cs', hc, ht⟩ := hi i (by rw [hmm]; split <;> omega)
      rw [k0] at hc
      obtain ⟨d, rfl, ok⟩ := trod_a20 ht
      obtain ⟨_, hcl, hat⟩ := World.cells?_some hc
      exact ⟨d, ok, fun j hj => hat j hj⟩
    have hspot : spot = none := by
      obtain ⟨d, _, hd⟩ := hval0 0 (by omega)
      have := hd 0 (by decide)
      have c0 : w.cell? (((⟨b, off, spot⟩ : Addr).add (0 * 8)).add 0) = some (.int .i64 d.k) := this
      simpa [Addr.add] using World.cell?_spot c0
    subst hspot
    have hadd : ∀ n, (⟨b, off, none⟩ : Addr).add n = ⟨b, off + n, none⟩ := fun n => by unfold Addr.add; split <;> simp_all
    have hadd2 : ∀ n j, (⟨b, off + n, none⟩ : Addr).add j = ⟨b, off + n + j, none⟩ := fun n j => by unfold Addr.add; split <;> simp_all
    have hval : ∀ i, i < len → ∃ d : A20, Row20 w b (off + i * 8) d ∧ d.Ok := fun i him => by
      obtain ⟨d, ok, hd⟩ := hval0 i him
      exact ⟨d, fun j hj => by have := hd j hj; rwa [hadd, hadd2] at this, ok⟩
    obtain ⟨l, hl2, hp⟩ := list_of _ len hval
    refine ⟨_, _, l, by rw [hl2], fun _ => ⟨b, off, rfl, ?_, fun i h => (hp i h).1⟩, fun d hd => ?_, by rw [hl2]; unfold maxLen at hm; omega⟩
    · obtain ⟨q, hq, _⟩ := hval 0 (by omega)
      exact cell_lt (hq 0 (by decide))
    · obtain ⟨j, hj, rfl⟩ := List.mem_iff_getElem.1 hd
      exact (hp j hj).2
end
end Go.Proofs.YtmemoopkgjgmiaaGreatDoor

/- law20.names: the page's example. -/
namespace Go.Proofs.YtmemoopkgjgmiaaGreatDoor
set_option linter.unusedVariables false
set_option linter.unusedSimpArgs false
open Go.RowKit

section
variable {w0 W W' : World} {q : MH} {T : Nat → Nat}
def xA : HB := rbX false 0 0 0 223
def xB : HB := rbX false 0 1 0 223
def Nm (w0 : World) (q : MH) (T : Nat → Nat) (W : World) : Prop := ∃ S u L E B, GI w0 q S L u E B W ∧ L 1136 ∧ L 1168 ∧ E 1136 = xA ∧ E 1168 = xB ∧ u.sl = T
def nT0 : Nat → Nat := fun _ => 0
def nT1 : Nat → Nat := up nT0 223 1136
def nT2 : Nat → Nat := up nT1 0 1168
theorem nT1_at (s : Nat) : nT1 s = if s = 223 then 1136 else 0 := rfl
theorem nT2_at (s : Nat) : nT2 s = if s = 0 then 1168 else if s = 223 then 1136 else 0 := rfl
theorem n_ins1 (h : Nm w0 q nT0 W) : Calls Tryz.prog 22 #[.pointer (some ⟨q.m, 0, none⟩), .int .i64 (1136 : Int)] W fun e w' => e = .returned (.int .i64 0) ∧ Fr q.blocks W w' ∧ Nm w0 q nT1 w' := by
  obtain ⟨S, u, L, E, B, g, l1, l2, e1, e2, e3⟩ := h
  have hH : hmE u E 1136 = 223 := by unfold hmE; rw [e1, g.s]; rfl
  refine (show Calls Tryz.prog 22 #[.pointer (some ⟨q.m, 0, none⟩), .int .i64 ((1136 : Nat) : Int)] W _ from ix_ins g l1).mono fun e w' ⟨hf, hc⟩ => ?_
  rw [e3, hH] at hc
  rcases hc with ⟨⟨s, _, hs⟩, _⟩ | ⟨_, hs, _⟩ | ⟨_, he, k, gg, Q, g'⟩
  · exact absurd (show (0 : Nat) = 1136 from hs) (by decide)
  · exact absurd rfl (hs 0 (by decide))
  · have hk : k = 0 := by
      rcases Nat.eq_zero_or_pos k with h | h
      · exact h
      · exact absurd rfl (Q.pre h).1
    have hg : gg = 0 := by
      rcases Nat.eq_zero_or_pos gg with h | h
      · exact h
      · exact absurd rfl (Q.gap1 h)
    subst hk; subst hg
    exact ⟨he, hf, S, _, L, E, B, g', l1, l2, e1, e2, rfl⟩
theorem n_ins2 (h : Nm w0 q nT1 W) : Calls Tryz.prog 22 #[.pointer (some ⟨q.m, 0, none⟩), .int .i64 (1168 : Int)] W fun e w' => e = .returned (.int .i64 0) ∧ Fr q.blocks W w' ∧ Nm w0 q nT2 w' := by
  obtain ⟨S, u, L, E, B, g, l1, l2, e1, e2, e3⟩ := h
  have hH : hmE u E 1168 = 223 := by unfold hmE; rw [e2, g.s]; rfl
  refine (show Calls Tryz.prog 22 #[.pointer (some ⟨q.m, 0, none⟩), .int .i64 ((1168 : Nat) : Int)] W _ from ix_ins g l2).mono fun e w' ⟨hf, hc⟩ => ?_
  rw [e3, hH] at hc
  rcases hc with ⟨⟨s, _, hs⟩, _⟩ | ⟨_, hs, _⟩ | ⟨_, he, k, gg, Q, g'⟩
  · rw [nT1_at] at hs
    split at hs <;> exact absurd hs (by decide)
  · exact absurd rfl (hs 0 (by decide))
  · have hk : k = 1 := by
      have h2 : ¬ 1 < k := fun h => absurd rfl (Q.pre h).1
      have h0 : k ≠ 0 := fun h => by
        subst h
        have := Q.end0 (by decide)
        omega
      omega
    subst hk
    have hg : gg = 0 := by
      rcases Nat.eq_zero_or_pos gg with h | h
      · exact h
      · exact absurd rfl (Q.gap1 h)
    subst hg
    exact ⟨he, hf, S, _, L, E, B, g', l1, l2, e1, e2, rfl⟩
theorem n_ins3 (h : Nm w0 q nT2 W) : Calls Tryz.prog 22 #[.pointer (some ⟨q.m, 0, none⟩), .int .i64 (1136 : Int)] W fun e w' => e = .returned (.int .i64 8) ∧ Fr q.blocks W w' ∧ Nm w0 q nT2 w' := by
  obtain ⟨S, u, L, E, B, g, l1, l2, e1, e2, e3⟩ := h
  refine (show Calls Tryz.prog 22 #[.pointer (some ⟨q.m, 0, none⟩), .int .i64 ((1136 : Nat) : Int)] W _ from ix_ins g l1).mono fun e w' ⟨hf, hc⟩ => ?_
  have hin : InT 224 u.sl 1136 := ⟨223, by decide, by rw [e3]; rfl⟩
  rcases hc with ⟨_, he, g'⟩ | ⟨hn, _⟩ | ⟨hn, _⟩
  · exact ⟨he, hf, S, u, L, E, B, g', l1, l2, e1, e2, e3⟩
  · exact absurd hin hn
  · exact absurd hin hn
theorem n_plA (h : Nm w0 q nT2 W) : Calls Tryz.prog 27 #[.pointer (some ⟨q.m, 0, none⟩), .int .i64 (1136 : Int)] W fun e w' => e = .returned (.tuple #[.int .i64 223, .bool true]) ∧ Fr q.blocks W w' ∧ Nm w0 q nT2 w' := by
  obtain ⟨S, u, L, E, B, g, l1, l2, e1, e2, e3⟩ := h
  refine (show Calls Tryz.prog 27 #[.pointer (some ⟨q.m, 0, none⟩), .int .i64 ((1136 : Nat) : Int)] W _ from ix_place g l1).mono fun e w' ⟨hf, g', hc⟩ => ?_
  rcases hc with ⟨hn, _⟩ | ⟨i, hi, hs, he⟩
  · exact absurd ⟨223, by decide, by rw [e3]; rfl⟩ hn
  · rw [e3, nT2_at] at hs
    have : i = 223 := by
      split at hs
      · exact absurd hs (by decide)
      · split at hs
        · assumption
        · exact absurd hs (by decide)
    subst this
    exact ⟨he, hf, S, u, L, E, B, g', l1, l2, e1, e2, e3⟩
theorem n_plB (h : Nm w0 q nT2 W) : Calls Tryz.prog 27 #[.pointer (some ⟨q.m, 0, none⟩), .int .i64 (1168 : Int)] W fun e w' => e = .returned (.tuple #[.int .i64 0, .bool true]) ∧ Fr q.blocks W w' ∧ Nm w0 q nT2 w' := by
  obtain ⟨S, u, L, E, B, g, l1, l2, e1, e2, e3⟩ := h
  refine (show Calls Tryz.prog 27 #[.pointer (some ⟨q.m, 0, none⟩), .int .i64 ((1168 : Nat) : Int)] W _ from ix_place g l2).mono fun e w' ⟨hf, g', hc⟩ => ?_
  rcases hc with ⟨hn, _⟩ | ⟨i, hi, hs, he⟩
  · exact absurd ⟨0, by decide, by rw [e3]; rfl⟩ hn
  · rw [e3, nT2_at] at hs
    have : i = 0 := by
      split at hs
      · assumption
      · split at hs <;> exact absurd hs (by decide)
    subst this
    exact ⟨he, hf, S, u, L, E, B, g', l1, l2, e1, e2, e3⟩
theorem n_ent (h : Nm w0 q nT2 W) : Calls Tryz.prog 91 #[.pointer (some ⟨q.m, 0, none⟩), .int .u32 (0 : Int), .int .u16 (1 : Int), .int .u32 (223 : Int)] W fun e w' => e = .returned (.tuple #[.int .i64 1168, .bool true]) ∧ Fr q.blocks W w' ∧ Nm w0 q nT2 w' := by
  obtain ⟨S, u, L, E, B, g, l1, l2, e1, e2, e3⟩ := h
  refine (show Calls Tryz.prog 91 #[.pointer (some ⟨q.m, 0, none⟩), .int .u32 ((0 : Nat) : Int), .int .u16 ((1 : Nat) : Int), .int .u32 ((223 : Nat) : Int)] W _ from ix_entry g 0 1 223 (by decide) (by decide) (by decide)).mono fun e w' ⟨hf, g', he⟩ => ?_
  have hH : hmE u E 1168 = 223 := by unfold hmE; rw [e2, g.s]; rfl
  have hsl : u.sl 0 = 1168 := by rw [e3]; rfl
  obtain ⟨i, hi, hfd, hP⟩ := g.rh.r.finds (isEn E 0 1 223) (s := 0) (by decide) (by rw [hsl]; decide) (by rw [hsl]; unfold isEn; rw [e2]; rfl)
  rw [hsl, hH] at hfd
  have hi0 : i = 0 := by
    obtain ⟨_, _, hne⟩ := fndS_some _ (by decide) 224 0 i hfd
    rw [e3, nT2_at] at hP hne
    by_cases c : i = 0
    · exact c
    · rw [if_neg c] at hP hne
      by_cases c2 : i = 223
      · rw [if_pos c2] at hP
        unfold isEn at hP
        rw [e1] at hP
        exact absurd hP (by decide)
      · rw [if_neg c2] at hne
        exact absurd rfl hne
  subst hi0
  rw [show (223 : Nat) % 224 = 223 from rfl, hfd] at he
  refine ⟨?_, hf, S, u, L, E, B, g', l1, l2, e1, e2, e3⟩
  rw [he]
  show Ending.returned (.tuple #[.int .i64 (u.sl 0 : Nat), .bool true]) = _
  rw [hsl]
  rfl
theorem n_lng (h : Nm w0 q nT2 W) : Calls Tryz.prog 92 #[.pointer (some ⟨q.m, 0, none⟩)] W fun e w' => e = .returned (.int .i64 1) ∧ Fr q.blocks W w' ∧ Nm w0 q nT2 w' := by
  obtain ⟨S, u, L, E, B, g, l1, l2, e1, e2, e3⟩ := h
  refine (ix_long g).mono fun e w' ⟨hf, g', he⟩ => ?_
  have hA : hmE u E 1136 = 223 := by unfold hmE; rw [e1, g.s]; rfl
  have hB : hmE u E 1168 = 223 := by unfold hmE; rw [e2, g.s]; rfl
  have hl : ∀ k, k ≤ 222 → lngS nT2 (hmE u E) 224 (k + 1) = 1 := fun k hk => by
    induction k with
    | zero =>
      unfold lngS
      rw [if_neg (by decide), farT_dst]
      show max 0 (dst 224 (hmE u E 1168) 0) = 1
      rw [hB]; rfl
    | succ k ih =>
      unfold lngS
      rw [if_pos (by rw [Nat.mod_eq_of_lt (by omega), nT2_at, if_neg (by omega), if_neg (by omega)])]
      exact ih (by omega)
  have hlast : lngS nT2 (hmE u E) 224 224 = 1 := by
    show lngS nT2 (hmE u E) 224 (223 + 1) = 1
    unfold lngS
    rw [if_neg (by decide), hl 222 (Nat.le_refl _), farT_dst]
    show max 1 (dst 224 (hmE u E 1136) 223) = 1
    rw [hA]; rfl
  rw [e3, hlast] at he
  exact ⟨he, hf, S, u, L, E, B, g', l1, l2, e1, e2, e3⟩
theorem n_flt (h : Nm w0 q nT2 W) : Calls Tryz.prog 32 #[.pointer (some ⟨q.m, 0, none⟩)] W fun e w' => e = .returned (.int .i64 0) ∧ Fr q.blocks W w' ∧ Nm w0 q nT2 w' := by
  obtain ⟨S, u, L, E, B, g, l1, l2, e1, e2, e3⟩ := h
  exact (ix_flt g).mono fun e w' ⟨hf, g', he⟩ => ⟨he, hf, S, u, L, E, B, g', l1, l2, e1, e2, e3⟩
theorem Nm.fr0 (h : Nm w0 q T W) (hf : Fr [] W W') : Nm w0 q T W' := by
  obtain ⟨S, u, L, E, B, g, r⟩ := h
  exact ⟨S, u, L, E, B, g.fr0 hf, r⟩
theorem Nm.f (h : Nm w0 q T W) : Fr [] w0 W := by
  obtain ⟨S, u, L, E, B, g, r⟩ := h
  exact g.f
theorem Nm.lt (h : Nm w0 q T W) : ∀ k ∈ q.blocks, k < W.heap.size := by
  obtain ⟨S, u, L, E, B, g, r⟩ := h
  exact g.h.m.lt
def NmA (w0 : World) (q : MH) (W : World) : Prop := ∃ u E B, GI w0 q x1.2.2 (fun y => y = 1136 ∨ False) u E B W ∧ E 1136 = xA ∧ u.sl = nT0
theorem n_blkA {u : TM} (g : GI w0 q SS.zero (fun _ => False) u (fun _ => HB.zero) (fun _ => []) W) (h0 : u.sl = fun _ => 0) :
    Calls Tryz.prog 29 #[.pointer (some ⟨q.m, 0, none⟩), .agg #[.int .i64 0, .bool false, .int .u32 0, .int .u16 0, .string ⟨#[]⟩, .int .u32 223]] W fun e w' => e = .returned (.agg #[.int .i64 1136, .bool false, .int .u32 0, .int .u16 0, .string ⟨#[]⟩, .int .u32 223]) ∧ Fr q.blocks W w' ∧ NmA w0 q w' := by
  refine (show Calls Tryz.prog 29 #[.pointer (some ⟨q.m, 0, none⟩), .agg #[.int .i64 0, .bool false, .int .u32 ((0 : Nat) : Int), .int .u16 ((0 : Nat) : Int), .string (strOf []), .int .u32 ((223 : Nat) : Int)]] W _ from iblkE g 0 0 0 223 (by decide) (by decide) (by decide)).mono fun e w' ⟨x, he, hf, hP⟩ => ?_
  rcases hP with ⟨_, hne, _⟩ | ⟨_, hx, _, _, _, v, gv, ev⟩
  · exact absurd x1v.2 hne
  · rw [show (takeS 7 (lbase 7 224) SS.zero 1).1 = 1136 from x1v.1] at hx
    subst hx
    exact ⟨he, hf, v, _, _, gv, up_same _ _ _, ev.trans h0⟩
theorem n_blkB (h : NmA w0 q W) :
    Calls Tryz.prog 29 #[.pointer (some ⟨q.m, 0, none⟩), .agg #[.int .i64 0, .bool false, .int .u32 0, .int .u16 1, .string ⟨#[]⟩, .int .u32 223]] W fun e w' => e = .returned (.agg #[.int .i64 1168, .bool false, .int .u32 0, .int .u16 1, .string ⟨#[]⟩, .int .u32 223]) ∧ Fr q.blocks W w' ∧ Nm w0 q nT0 w' := by
  obtain ⟨u, E, B, g, e1, e2⟩ := h
  refine (show Calls Tryz.prog 29 #[.pointer (some ⟨q.m, 0, none⟩), .agg #[.int .i64 0, .bool false, .int .u32 ((0 : Nat) : Int), .int .u16 ((1 : Nat) : Int), .string (strOf []), .int .u32 ((223 : Nat) : Int)]] W _ from iblkE g 0 0 1 223 (by decide) (by decide) (by decide)).mono fun e w' ⟨x, he, hf, hP⟩ => ?_
  rcases hP with ⟨_, hne, _⟩ | ⟨_, hx, _, _, _, v, gv, ev⟩
  · exact absurd x2v.2 hne
  · rw [show (takeS 7 (lbase 7 224) x1.2.2 1).1 = 1168 from x2v.1] at hx
    subst hx
    exact ⟨he, hf, _, v, _, _, _, gv, .inr (.inl rfl), .inl rfl, (up_ne _ _ (by decide)).trans e1, up_same _ _ _, ev.trans e2⟩
theorem NmA.lt (h : NmA w0 q W) : ∀ k ∈ q.blocks, k < W.heap.size := by
  obtain ⟨u, E, B, g, r⟩ := h
  exact g.h.m.lt
set_option maxRecDepth 100000 in
theorem names20 (w : World) (hM : TabM w) (hT : Tabs w) : Calls Tryz.prog 16 #[] w fun e w' => e = .returned (.bool true) ∧ Fr [] w w' := by
  have hF := fresh20 w hM hT
  clear hM hT
  go_enter Tryz.func16, Tryz.ntmps16
  go_wp2_with fail
  with_reducible refine hF.mono ?_
  rintro e w1 ⟨q, u, rfl, g1, h0⟩
  have c1 := Lib.hid (n_blkA g1 h0)
  clear hF g1 h0
  go_wp2_with fail
  with_reducible refine c1.out.mono ?_
  rintro e w2 ⟨rfl, f2, h2⟩
  have c2 := Lib.hid (n_blkB h2)
  clear f2 h2 c1
  go_wp2_with fail
  with_reducible refine c2.out.mono ?_
  rintro e w3 ⟨rfl, f3, h3⟩
  have hql := h3.lt
  have n2 : w3.heap.size ∉ q.blocks := fun h => by have := hql _ h; omega
  have n3 : w3.heap.size + 1 ∉ q.blocks := fun h => by have := hql _ h; omega
  have F3 := Lib.hid ((((Fr.refl [] w3).alloc (.cells #[.int .i64 1136, .bool false, .int .u32 0, .int .u16 0, .string ⟨#[]⟩, .int .u32 223] 33)).alloc (.cells #[.int .i64 1168, .bool false, .int .u32 0, .int .u16 1, .string ⟨#[]⟩, .int .u32 223] 33)).drew)
  have H3 := Lib.hid (h3.fr0 F3.out)
  have BA := Lib.hid (((Blk.new w3 33 #[.int .i64 1136, .bool false, .int .u32 0, .int .u16 0, .string ⟨#[]⟩, .int .u32 223]).alloc (.cells #[.int .i64 1168, .bool false, .int .u32 0, .int .u16 1, .string ⟨#[]⟩, .int .u32 223] 33)).drew)
  have BB := Lib.hid ((Blk.new (w3.alloc (.cells #[.int .i64 1136, .bool false, .int .u32 0, .int .u16 0, .string ⟨#[]⟩, .int .u32 223] 33)) 33 #[.int .i64 1168, .bool false, .int .u32 0, .int .u16 1, .string ⟨#[]⟩, .int .u32 223]).drew)
  rw [show (w3.alloc (.cells #[.int .i64 1136, .bool false, .int .u32 0, .int .u16 0, .string ⟨#[]⟩, .int .u32 223] 33)).heap.size = w3.heap.size + 1 by simp] at BB
  generalize hW : ((w3.alloc (.cells #[.int .i64 1136, .bool false, .int .u32 0, .int .u16 0, .string ⟨#[]⟩, .int .u32 223] 33)).alloc (.cells #[.int .i64 1168, .bool false, .int .u32 0, .int .u16 1, .string ⟨#[]⟩, .int .u32 223] 33)).drew = W4 at *
  have DC := Lib.hid (fun V (hV : Fr q.blocks W4 V) => And.intro (show V.cell? ⟨w3.heap.size, 0, none⟩ = some (.int .i64 1136) from (BA.out.fr hV n2).cell 0) (show V.cell? ⟨w3.heap.size + 1, 0, none⟩ = some (.int .i64 1168) from (BB.out.fr hV n3).cell 0))
  have hY := DC.out _ (Fr.refl _ _)
  rw [← hW] at hY
  have HW := Lib.hid hW
  clear f3 h3 c2 hql n2 n3 BA BB hW
  go_wp2_with fail
  refine wp_region_held_drew (S := fun V => V.cell? ⟨w3.heap.size, 0, none⟩ = some (.int .i64 1136) ∧ V.cell? ⟨w3.heap.size + 1, 0, none⟩ = some (.int .i64 1168)) (by kernel_rfl) (hY) (fun yH => ?_)
  refine tkY 0 yH (h := ?_)
  refine tkY 1 yH (h := ?_)
  refine tkY 2 yH (h := ?_)
  refine tkY 4 yH (h := ?_)
  refine tkY 5 yH (h := ?_)
  refine tkY 6 yH (h := ?_)
  refine wpAnyH_ready (rs := [3]) (by kernel_rfl) (by simp) ?_
  refine AllReadyH.cons (o := ?ooa6) ?hia6 (fun K hK => ?hca6) AllReadyH.nil
  case hia6 => (simp only [List.getElem?_toArray, List.getElem?_cons_zero, List.getElem?_cons_succ]; rfl)
  go_simp
  rw [HW.out]
  with_reducible refine (n_ins1 H3.out).mono ?_
  rintro e w4 ⟨rfl, f4, h4⟩
  have F4 := Lib.hid f4
  have H4 := Lib.hid h4
  have hY := DC.out _ F4.out
  clear f4 h4
  go_wp2_with fail
  refine hK.out _ _ (hY) (fun yH => ?_)
  clear hK K
  try simp only [Act.put, List.setIfInBounds_toArray, List.set_cons_zero, List.set_cons_succ]
  refine wpAnyH_ready (rs := [7]) (by kernel_rfl) (by simp) ?_
  refine AllReadyH.cons (o := ?ooa7) ?hia7 (fun K hK => ?hca7) AllReadyH.nil
  case hia7 => (simp only [List.getElem?_toArray, List.getElem?_cons_zero, List.getElem?_cons_succ]; rfl)
  go_simp
  with_reducible refine (n_ins2 H4.out).mono ?_
  rintro e w5 ⟨rfl, f5, h5⟩
  have F5 := Lib.hid (F4.out.trans f5)
  have H5 := Lib.hid h5
  have hY := DC.out _ F5.out
  clear f5 h5
  go_wp2_with fail
  refine hK.out _ _ (hY) (fun yH => ?_)
  clear hK K
  try simp only [Act.put, List.setIfInBounds_toArray, List.set_cons_zero, List.set_cons_succ]
  refine tkY 8 yH (h := ?_)
  refine tkY 9 yH (h := ?_)
  refine wpAnyH_done (by kernel_rfl) ?_ _
  try simp only [Act.put, List.getElem_toArray, List.getElem_cons_zero, List.getElem_cons_succ, List.setIfInBounds_toArray, List.set_cons_zero, List.set_cons_succ]
  clear hY
  obtain ⟨d1, d2⟩ := DC.out _ F5.out
  have c5 := Lib.hid (n_plA H5.out)
  go_wp2_with fail
  with_reducible refine c5.out.mono ?_
  rintro e w6 ⟨rfl, f6, h6⟩
  have F6 := Lib.hid (F5.out.trans f6)
  have c6 := Lib.hid (n_plB h6)
  clear f6 h6 c5 d1 d2
  obtain ⟨d1, d2⟩ := DC.out _ F6.out
  go_wp2_with fail
  with_reducible refine c6.out.mono ?_
  rintro e w7 ⟨rfl, f7, h7⟩
  have F7 := Lib.hid (F6.out.trans f7)
  have c7 := Lib.hid (n_ent h7)
  clear f7 h7 c6 d1 d2
  obtain ⟨d1, d2⟩ := DC.out _ F7.out
  go_wp2_with fail
  with_reducible refine c7.out.mono ?_
  rintro e w8 ⟨rfl, f8, h8⟩
  have F8 := Lib.hid (F7.out.trans f8)
  have c8 := Lib.hid (n_lng h8)
  clear f8 h8 c7 d1 d2
  obtain ⟨d1, d2⟩ := DC.out _ F8.out
  go_wp2_with fail
  with_reducible refine c8.out.mono ?_
  rintro e w9 ⟨rfl, f9, h9⟩
  have F9 := Lib.hid (F8.out.trans f9)
  have c9 := Lib.hid (n_ins3 h9)
  clear f9 h9 c8 d1 d2
  obtain ⟨d1, d2⟩ := DC.out _ F9.out
  go_wp2_with fail
  with_reducible refine c9.out.mono ?_
  rintro e w10 ⟨rfl, f10, h10⟩
  have c10 := Lib.hid (n_flt h10)
  clear f10 h10 c9 d1 d2
  go_wp2_with fail
  with_reducible refine c10.out.mono ?_
  rintro e w11 ⟨rfl, f11, h11⟩
  have H11 := Lib.hid h11
  clear f11 h11 c10
  go_wp2_with fail
  go_ret
  exact ⟨rfl, H11.out.f⟩
end
end Go.Proofs.YtmemoopkgjgmiaaGreatDoor

/- law20.Few. -/
namespace Go.Proofs.YtmemoopkgjgmiaaGreatDoor
set_option linter.unusedVariables false
set_option linter.unusedSimpArgs false
open Go.RowKit

def fewL (l : List A20) : Bool := (l.take 200).all (fun d => d.b.few) && decide (l.length ≤ 120)
theorem fewL_no {l : List A20} {j : Nat} (hj : j < l.length) (h2 : j < 200) (h : l[j].b.few = false) : fewL l = false := by
  unfold fewL
  have : (l.take 200).all (fun d => d.b.few) = false := by
    rw [List.all_eq_false]
    exact ⟨l[j], List.mem_take_iff_getElem.2 ⟨j, by omega, rfl⟩, by rw [h]; decide⟩
  rw [this]; rfl
theorem fewL_yes {l : List A20} (h : ∀ i (hi : i < l.length), i < 200 → l[i].b.few = true) : fewL l = decide (l.length ≤ 120) := by
  unfold fewL
  have : (l.take 200).all (fun d => d.b.few) = true := by
    rw [List.all_eq_true]
    intro x hx
    obtain ⟨i, hi, e⟩ := List.mem_take_iff_getElem.1 hx
    rw [← e]
    exact h i (by omega) (by omega)
  rw [this]; simp
section
variable {w : World}
set_option maxRecDepth 100000 in
theorem few20 (a : Option Addr) (c : Nat) (l : List A20) (h : ActA20 w a c l) : Calls Tryz.prog 15 #[.int .i64 0, .slice a l.length c] w fun e w' => e = .returned (.bool (fewL l)) ∧ Fr [] w w' := by
  have HA := Lib.hid h
  have HNO := Lib.hid (fun j (hj : j < l.length) h2 h => fewL_no (l := l) hj h2 h)
  have HYE := Lib.hid (fun h => fewL_yes (l := l) h)
  generalize fewL l = R at *
  obtain ⟨n, hn⟩ : ∃ n, l.length = n := ⟨_, rfl⟩
  have HN := Lib.hid hn
  rw [hn]
  have hlen := h.len
  rw [hn] at hlen
  clear h hn
  go_enter Tryz.func15, Tryz.ntmps15
  go_wp2_with fail
  go_loopw [5] (fun v W => ∃ j : Nat, j ≤ n ∧ j ≤ 200 ∧ v = .int .i64 j ∧ Hid (∀ i (hi : i < l.length), i < j → l[i].b.few = true) ∧ Hid (Fr [] w W)) (fun v _ => n - (intOf v).toNat)
  case atStart => exact ⟨0, by omega, by omega, rfl, Lib.hid (fun i hi h => absurd h (Nat.not_lt_zero _)), Lib.hid (Fr.refl _ _)⟩
  case round =>
    obtain ⟨j, hj, hj2, rfl, hF, hW⟩ := hrel
    by_cases hlt : j < n
    · by_cases h200 : j < 200
      · have b1 : decide ((j : Int) < n) = true := by simp; omega
        have b1' : decide (j < n) = true := by simp; omega
        have b2 : decide ((j : Int) < 200) = true := by simp; omega
        have b2' : decide (j < 200) = true := by simp; omega
        have w3 : IntKind.i64.wrap ((j : Int) + 1) = (j : Int) + 1 := IntWalk.i64_in _ (by omega)
        have hlt' : j < l.length := by rw [HN.out]; exact hlt
        obtain ⟨B, off, rfl, hBl, hr⟩ := HA.out.row (by omega)
        have hrj := hr j hlt'
        have hok := HA.out.each _ (List.getElem_mem hlt')
        have HNOj := Lib.hid (HNO.out j hlt' h200)
        have hS := Lib.hid (show l[j].b.few = true → ∀ i (hi : i < l.length), i < j + 1 → l[i].b.few = true from fun h i hi hlt => by
          by_cases e : i = j
          · subst e; exact h
          · exact hF.out i hi (by omega))
        generalize l[j]'hlt' = y at *
        obtain ⟨yk, yn, yb⟩ := y
        obtain ⟨ba, bn, bm, bt, bl, bh⟩ := yb
        have cY2 := (hW.out.cell (p := ⟨B, off + j * 8 + 2, none⟩) hBl (by simp)).trans (hrj 2 (by decide))
        have cY3 := (hW.out.cell (p := ⟨B, off + j * 8 + 3, none⟩) hBl (by simp)).trans (hrj 3 (by decide))
        have cY4 := (hW.out.cell (p := ⟨B, off + j * 8 + 4, none⟩) hBl (by simp)).trans (hrj 4 (by decide))
        have cY5 := (hW.out.cell (p := ⟨B, off + j * 8 + 5, none⟩) hBl (by simp)).trans (hrj 5 (by decide))
        have cY6 := (hW.out.cell (p := ⟨B, off + j * 8 + 6, none⟩) hBl (by simp)).trans (hrj 6 (by decide))
        have cY7 := (hW.out.cell (p := ⟨B, off + j * 8 + 7, none⟩) hBl (by simp)).trans (hrj 7 (by decide))
        simp only [A20.cells, List.getElem?_cons_zero, List.getElem?_cons_succ] at cY2 cY3 cY4 cY5 cY6 cY7
        have hg2 : (0 : Int) ≤ j := by omega
        have hg3 : (j : Int) < n := by omega
        have hsz := strOf_size bl
        have hemp : (strOf bl).toList.isEmpty = bl.isEmpty := by rw [strOf_list]; cases bl <;> rfl
        have HFW := Lib.hid (show ({ at_ := ba, nd := bn, nm := bm, ty := bt, lab := bl, hs := bh } : RB).few = if bn then decide (1 ≤ bl.length ∧ bl.length ≤ 16 ∧ bt = 0) else bl.isEmpty from rfl)
        have HTR := Lib.hid (hW.out)
        have b3 : (decide ((((strOf bl).size : Nat) : Int) < 1)) = decide (bl.length < 1) := by rw [hsz]; congr 1; apply propext; omega
        have b4 : (decide ((16 : Int) < (((strOf bl).size : Nat) : Int))) = decide (16 < bl.length) := by rw [hsz]; congr 1; apply propext; omega
        obtain ⟨sz, hsz'⟩ : ∃ sz, (strOf bl).size = sz := ⟨_, rfl⟩
        rw [hsz] at hsz'
        clear hr hrj hok HA b3 b4 HYE HNO
        generalize bl.length = m at *
        subst hsz'
        generalize strOf bl = sb at *
        cases bn with
        | true =>
          simp only [if_true] at HFW
          by_cases h1 : m < 1
          · have d1 : decide ((m : Int) < 1) = true := by simp; omega
            have d1' : decide (m < 1) = true := by simp; omega
            have HR := Lib.hid (show R = false from HNOj.out (by rw [HFW.out]; exact decide_eq_false (by omega)))
            go_wp2_with fail
            go_ret
            exact ⟨by rw [HR.out]; rfl, HTR.out.alloc _⟩
          · have d1 : decide ((m : Int) < 1) = false := by simp; omega
            have d1' : decide (m < 1) = false := by simp; omega
            by_cases h2 : 16 < m
            · have d2 : decide ((16 : Int) < m) = true := by simp; omega
              have d2' : decide (16 < m) = true := by simp; omega
              have HR := Lib.hid (show R = false from HNOj.out (by rw [HFW.out]; exact decide_eq_false (by omega)))
              go_wp2_with fail
              go_ret
              exact ⟨by rw [HR.out]; rfl, HTR.out.alloc _⟩
            · have d2 : decide ((16 : Int) < m) = false := by simp; omega
              have d2' : decide (16 < m) = false := by simp; omega
              by_cases h3 : bt = 0
              · subst h3
                have d3 : (((0 : Nat) : Int) != 0) = false := rfl
                have HR := Lib.hid (hS.out (by rw [HFW.out]; exact decide_eq_true (by omega)))
                have HF2 := Lib.hid (HTR.out.alloc (.cells #[.int .i64 ba, .bool true, .int .u32 bm, .int .u16 (0 : Nat), .string sb, .int .u32 bh] 33))
                clear HNOj hS hemp
                go_wp2_with fail
                go_roundw
                case rel => exact ⟨j + 1, by omega, by omega, by go_num, HR, HF2⟩
                case measure => simp [intOf]; omega
              · have d3 : ((bt : Int) != 0) = true := by simp; omega
                have HR := Lib.hid (show R = false from HNOj.out (by rw [HFW.out]; exact decide_eq_false (by omega)))
                go_wp2_with fail
                go_ret
                exact ⟨by rw [HR.out]; rfl, HTR.out.alloc _⟩
        | false =>
          have HFW' := Lib.hid (show _ = bl.isEmpty from HFW.out)
          clear HFW
          by_cases h1 : bl.isEmpty = true
          · rw [h1] at hemp HFW'
            have HR := Lib.hid (hS.out HFW'.out)
            have HF2 := Lib.hid (HTR.out.alloc (.cells #[.int .i64 ba, .bool false, .int .u32 bm, .int .u16 bt, .string sb, .int .u32 bh] 33))
            have e1 : (!sb.toList.isEmpty) = false := by rw [hemp]; rfl
            clear HNOj hS
            go_wp2_with fail
            go_roundw
            case rel => exact ⟨j + 1, by omega, by omega, by go_num, HR, HF2⟩
            case measure => simp [intOf]; omega
          · have h1 := Bool.eq_false_iff.2 h1
            rw [h1] at hemp HFW'
            have HR := Lib.hid (HNOj.out HFW'.out)
            have e1 : (!sb.toList.isEmpty) = true := by rw [hemp]; rfl
            go_wp2_with fail
            go_ret
            exact ⟨by rw [HR.out]; rfl, HTR.out.alloc _⟩
      · obtain rfl : j = 200 := by omega
        have b1 : decide ((200 : Int) < n) = true := by simp; omega
        have b1' : decide (200 < n) = true := by simp; omega
        have HR := Lib.hid (show R = decide ((n : Int) ≤ 120) from by
          rw [HYE.out (fun i hi h => hF.out i hi h), HN.out]
          congr 1
          apply propext; omega)
        have b5 : decide ((n : Int) ≤ 120) = false := by simp; omega
        have b5' : decide (n ≤ 120) = false := by simp; omega
        rw [b5] at HR
        clear HYE HNO HA
        go_wp2_with fail
        go_ret
        exact ⟨by rw [HR.out]; rfl, hW.out⟩
    · obtain rfl : j = n := by omega
      have b1 : decide ((j : Int) < j) = false := by simp
      have b1' : decide (j < j) = false := by simp
      have HR := Lib.hid (show R = decide ((j : Int) ≤ 120) from by
        rw [HYE.out (fun i hi _ => hF.out i hi (by rw [← HN.out]; exact hi)), HN.out]
        congr 1
        apply propext; omega)
      clear HYE HNO HA
      obtain ⟨z, hz⟩ : ∃ z, decide ((j : Int) ≤ 120) = z := ⟨_, rfl⟩
      rw [hz] at HR
      have hz' : decide (j ≤ 120) = z := by rw [← hz]; congr 1; apply propext; omega
      go_wp2_with fail
      go_ret
      exact ⟨by rw [HR.out]; rfl, hW.out⟩
end
end Go.Proofs.YtmemoopkgjgmiaaGreatDoor
