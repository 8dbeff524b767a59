/- append on a row of bytes that the call itself made. -/
import Derived.Test.YtcagljjbiodcoaaDoorBytes
import Derived.Maps.AppendAt
import Derived.Deep.AppendLies
import Derived.OwnWalk
namespace Go.Proofs.YtcagljjbiodcoaaDoor
set_option linter.unusedVariables false
open Go.RowKit

def cellsB (l : List Nat) : List Value := l.map fun k : Nat => Value.int .u8 (k : Int)
/-- The slice v owns a row that begins with the bytes l. -/
def OwnB (w : World) (base : Nat) (v : Value) (l : List Nat) : Prop := w.ownsRow base 5 1 v l.length (cellsB l)

theorem OwnB.nil (w : World) (base : Nat) : OwnB w base (.slice none 0 0) [] := ⟨rfl, .inl ⟨rfl, rfl⟩⟩
theorem OwnB.made {w : World} {base g : Nat} {l : List Nat} (hb : base ≤ g) (h : Blk w g 5 (bytes l)) (hl : l.length ≤ maxLen) : OwnB w base (.slice (some ⟨g, 0, none⟩) l.length l.length) l :=
  ⟨by simp [cellsB], .inr ⟨g, l.length, bytes l, rfl, hb, h, Nat.le_refl _, hl, by simp [bytes], by simp [cellsB, bytes]; rw [List.take_of_length_le (by simp)]⟩⟩
theorem OwnB.alloc {w : World} {base : Nat} {v : Value} {l : List Nat} (h : OwnB w base v l) (o : Obj) : OwnB (w.alloc o) base v l := World.ownsRow.alloc h o
theorem OwnB.byt {w : World} {base : Nat} {v : Value} {l : List Nat} (h : OwnB w base v l) (hb : ∀ b ∈ l, b < 256) (hl : l.length ≤ 1099511627776) : ∃ a c, v = .slice a l.length c ∧ Byt w a l ∧ (∀ g o, a = some ⟨g, o, none⟩ → base ≤ g) := by
  obtain ⟨h1, ⟨rfl, h2⟩ | ⟨g, cap, cur, rfl, hg, hh, hc, hm, hs, ht⟩⟩ := h
  · refine ⟨none, 0, by rw [h2], ⟨fun i hi => by omega, hb, hl⟩, fun g o e => by cases e⟩
  · refine ⟨_, _, rfl, ⟨fun i hi => ⟨g, 0, rfl, ?_, Blk.lt hh⟩, hb, hl⟩, fun g' o e => by injection e with e; injection e with e1 e2; omega⟩
    rw [Nat.zero_add, Blk.cell hh]
    have h3 : (cur.toList.take (l.length * 1))[i]? = (cellsB l)[i]? := by rw [ht]
    rw [List.getElem?_take_of_lt (by omega), Array.getElem?_toList] at h3
    rw [h3, cellsB, List.getElem?_map, List.getElem?_eq_getElem hi]
    rfl

theorem info_u8' : ∃ i, Tryd.prog.info? 5 = some i ∧ i.zero = some (.int .u8 0) ∧ i.size = 1 ∧ i.bytes = 1 := by
  have h : (Tryd.prog.info? 5).map (fun i => (i.zero, i.size, i.bytes)) = some (some (.int .u8 0), 1, 1) := by kernel_rfl
  cases e : Tryd.prog.info? 5 with
  | none => rw [e] at h; cases h
  | some i =>
    rw [e] at h
    simp at h
    exact ⟨i, rfl, h.1, h.2.1, h.2.2⟩

theorem Fr.of_grown {w w' : World} {row : Option Nat} {S : List Nat} (h : w.grownBy w' row) (hr : ∀ g, row = some g → g ∈ S) : Fr S w w' :=
  ⟨h.os, h.tape, h.output, h.size, fun k hk hn => h.block k hk (fun e => hn (hr k e.symm))⟩

set_option maxRecDepth 100000 in
theorem run_app (w : World) (base : Nat) (v : Value) (l : List Nat) (h : OwnB w base v l) (a : Option Addr) (c : Nat) (m : List Nat) (hm : Byt w a m) (hl : l.length + m.length ≤ 1099511627776) (hbase : base ≤ w.heap.size) :
    ∃ v' w', (Builtin.append_ #[63, 63] 63 #[v, .slice a m.length c]).run Tryd.prog w = .ok v' w' ∧ OwnB w' base v' (l ++ m) ∧ w.grownBy w' v.ownBlock ∧ (v'.ownBlock = v.ownBlock ∨ v'.ownBlock = some w.heap.size) := by
  obtain ⟨i, hi, hz, hs, hb⟩ := info_u8'
  rcases a with _ | ad
  · have hm0 : m = [] := by
      rcases m with _ | ⟨x, m⟩
      · rfl
      · obtain ⟨g, o, e, _⟩ := hm.at_ 0 (by simp)
        cases e
    subst hm0
    refine ⟨v, w, ?_, by simpa using h, World.grownBy.refl w _, .inl rfl⟩
    obtain ⟨h1, ⟨rfl, h2⟩ | ⟨g, cap, cur, rfl, hg, hh, hc, _⟩⟩ := h
    · have : l = [] := List.eq_nil_of_length_eq_zero h2
      subst this
      simp [Builtin.append_, run_underlying Tryd.underlying63, sizeOf, typeInfo, hi, Builtin.lenOf, Builtin.firstCells]
    · simp [Builtin.append_, run_underlying Tryd.underlying63, sizeOf, typeInfo, hi, Builtin.lenOf, Builtin.firstCells, hc, storeCells]
  · have hcells : ∀ j u, (cellsB m)[j]? = some u → w.cell? (ad.add j) = some u := by
      intro j u hu
      have hj : j < m.length := by
        have := (List.getElem?_eq_some_iff.1 hu).1
        simpa [cellsB] using this
      obtain ⟨g, o, e, hc, _⟩ := hm.at_ j hj
      injection e with e
      subst e
      have hadd : (⟨g, o, none⟩ : Addr).add j = ⟨g, o + j, none⟩ := by unfold Addr.add; split <;> simp_all
      rw [hadd, hc]
      rw [cellsB, List.getElem?_map, List.getElem?_eq_getElem hj] at hu
      rw [List.getElem?_eq_getElem hj]
      exact hu
    have key := fun ty => run_append_own_at (P := Tryd.prog) w base 63 ty 5 i (.int .u8 0) 1 1 Tryd.underlying63 hi hz hs hb rfl (by decide) v l.length (cellsB l) h ad m.length c (cellsB m) (by simp [cellsB]) hcells (fun u hu => by
      obtain ⟨k, _, rfl⟩ := List.mem_map.1 hu
      rfl) (by unfold maxLen; omega) (by omega) hbase
    obtain ⟨v', w', hrun, h2, h3, _, h5⟩ := key 63
    refine ⟨v', w', hrun, ?_, h3, h5⟩
    unfold OwnB
    rw [List.length_append, cellsB, List.map_append]
    exact h2

theorem OwnB.fr {w0 w w' : World} {base : Nat} {v : Value} {l : List Nat} (h : OwnB w base v l) (hg : w.grownBy w' v.ownBlock) (hf : Fr [] w0 w) (hb : w0.heap.size ≤ base) : Fr [] w0 w' := by
  have hno : ∀ k, k < base → some k ≠ v.ownBlock := by
    obtain ⟨h1, ⟨rfl, h2⟩ | ⟨g, cap, cur, rfl, hgb, _⟩⟩ := h
    · intro k _ e; cases e
    · intro k hk e
      injection e with e
      have e2 : k = g := e
      omega
  exact ⟨hg.os.trans hf.os, hg.tape.trans hf.tape, hg.output.trans hf.output, Nat.le_trans hf.size hg.size, fun k hk hn => (hg.block k (Nat.lt_of_lt_of_le hk hf.size) (hno k (by omega))).trans (hf.block k hk hn)⟩

/-- The same, as a step of a walk. -/
theorem wp_app {w : World} {o : Oper} {a : Act} {K : Act → World → Prop} {Q : Exit → Act → World → Prop} (s x : Operand) (ho : o.op = .call { callee := .builtin .append, args := #[s, x], argTypes := #[63, 63] }) (hty : o.type = 63)
    (base : Nat) (v : Value) (l : List Nat) (hs : a.eval s = v) (hown : OwnB w base v l) (A : Option Addr) (c n : Nat) (m : List Nat) (hn : m.length = n) (hx : a.eval x = .slice A n c) (hm : Byt w A m)
    (hl : l.length + m.length ≤ 1099511627776) (hbase : base ≤ w.heap.size)
    (h : ∀ v' w', OwnB w' base v' (l ++ m) → w.grownBy w' v.ownBlock → (v'.ownBlock = v.ownBlock ∨ v'.ownBlock = some w.heap.size) → K (a.put o.dst v') w') : o.wp Tryd.prog a w K Q := by
  subst hn
  obtain ⟨v', w', hrun, h2, h3, h4⟩ := run_app w base v l hown A c m hm hl hbase
  unfold Oper.wp execOp
  simp only [ho, hty, resolve, invoke, builtin, Sem.run_bind, Sem.run_pure, Result.andThen_ok, List.map_toArray, List.map_cons, List.map_nil, hs, hx, hrun]
  exact h v' w' h2 h3 h4
theorem wpList_app {w : World} {ops : Array Oper} {rest : List Oper} {o : Oper} {a : Act} {Q : Exit → Act → World → Prop} (hgd : o.guard = none) (s x : Operand) (ho : o.op = .call { callee := .builtin .append, args := #[s, x], argTypes := #[63, 63] }) (hty : o.type = 63)
    (base : Nat) (v : Value) (l : List Nat) (hs : a.eval s = v) (hown : OwnB w base v l) (A : Option Addr) (c n : Nat) (m : List Nat) (hn : m.length = n) (hx : a.eval x = .slice A n c) (hm : Byt w A m)
    (hl : l.length + m.length ≤ 1099511627776) (hbase : base ≤ w.heap.size)
    (h : ∀ v' w', OwnB w' base v' (l ++ m) → w.grownBy w' v.ownBlock → (v'.ownBlock = v.ownBlock ∨ v'.ownBlock = some w.heap.size) → wpList Tryd.prog ops Q rest (a.put o.dst v') w') : wpList Tryd.prog ops Q (o :: rest) a w :=
  wpList_plain hgd fun _ hK => wp_app s x ho hty base v l hs hown A c n m hn hx hm hl hbase fun v' w' h2 h3 h4 => hK _ _ (h v' w' h2 h3 h4)
end Go.Proofs.YtcagljjbiodcoaaDoor
