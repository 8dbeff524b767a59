/- layout.Runs: the parts of an arena. -/
import Derived.Test.YtcagljjbiodcoaaDoorLay
import Derived.Maps.AppendAt
import Derived.OwnWalk
import Derived.Deep.AppendLies
namespace Go.Proofs.YtcagljjbiodcoaaDoor
set_option linter.unusedVariables false
open Go.RowKit

abbrev Rn := Nat × Nat × Nat
def rCells (l : List Rn) : List Value := l.flatMap fun r => [.int .i64 r.1, .int .i64 r.2.1, .int .i64 r.2.2]
theorem rCells_len (l : List Rn) : (rCells l).length = 3 * l.length := by
  induction l with
  | nil => rfl
  | cons r l ih => simp [rCells] at ih ⊢; omega
theorem rCells_snoc (l : List Rn) (r : Rn) : rCells (l ++ [r]) = rCells l ++ [.int .i64 r.1, .int .i64 r.2.1, .int .i64 r.2.2] := by simp [rCells]
theorem rCells_get : ∀ (l : List Rn) (i : Nat) (r : Rn), l[i]? = some r → (rCells l)[3 * i]? = some (.int .i64 r.1) ∧ (rCells l)[3 * i + 1]? = some (.int .i64 r.2.1) ∧ (rCells l)[3 * i + 2]? = some (.int .i64 r.2.2)
  | [], i, r, h => by simp at h
  | x :: l, 0, r, h => by
    simp at h; subst h
    exact ⟨rfl, rfl, rfl⟩
  | x :: l, i + 1, r, h => by
    have := rCells_get l i r (by simpa using h)
    have e : rCells (x :: l) = [.int .i64 x.1, .int .i64 x.2.1, .int .i64 x.2.2] ++ rCells l := rfl
    rw [e, List.getElem?_append_right (by simp; omega), List.getElem?_append_right (by simp; omega), List.getElem?_append_right (by simp; omega)]
    simp only [List.length_cons, List.length_nil]
    rw [show 3 * (i + 1) - (0 + 1 + 1 + 1) = 3 * i by omega, show 3 * (i + 1) + 1 - (0 + 1 + 1 + 1) = 3 * i + 1 by omega, show 3 * (i + 1) + 2 - (0 + 1 + 1 + 1) = 3 * i + 2 by omega]
    exact this

def OwnR (w : World) (base : Nat) (v : Value) (l : List Rn) : Prop := w.ownsRow base 139 3 v l.length (rCells l)
/-- Where the last run ends. -/
def lastEnd (l : List Rn) : Nat := match l.getLast? with
  | some r => r.1 + r.2.1
  | none => 0
def layStep (l : List Rn) (e k : Nat) : List Rn := if lastEnd l < e then l ++ [(lastEnd l, e - lastEnd l, k)] else l

theorem info_rn : (Tryd.prog.info? 139).map (fun i => (i.zero, i.size, i.bytes)) = some (some (.agg #[.int .i64 0, .int .i64 0, .int .i64 0]), 3, 24) := by kernel_rfl
theorem info_rn' : ∃ i, Tryd.prog.info? 139 = some i ∧ i.zero = some (.agg #[.int .i64 0, .int .i64 0, .int .i64 0]) ∧ i.size = 3 ∧ i.bytes = 24 := by
  have h := info_rn
  cases e : Tryd.prog.info? 139 with
  | none => rw [e] at h; cases h
  | some i =>
    rw [e] at h
    simp at h
    exact ⟨i, rfl, h.1, h.2.1, h.2.2⟩

/-- A row of the call's own: the frame behind an append. -/
theorem own_fr {w0 w w' : World} {base n size : Nat} {e : TypeId} {v : Value} {xs : List Value} (h : w.ownsRow base e size v n xs) (hg : w.grownBy w' v.ownBlock) (hf : Fr [] w0 w) (hb : w0.heap.size ≤ base) : Fr [] w0 w' := by
  have hno : ∀ k, k < base → some k ≠ v.ownBlock := by
    obtain ⟨h1, ⟨rfl, h2⟩ | ⟨g, cap, cur, rfl, hgb, _⟩⟩ := h
    · intro k _ e; cases e
    · intro k hk e
      injection e with e
      have e2 : k = g := e
      omega
  exact ⟨hg.os.trans hf.os, hg.tape.trans hf.tape, hg.output.trans hf.output, Nat.le_trans hf.size hg.size, fun k hk hn => (hg.block k (Nat.lt_of_lt_of_le hk hf.size) (hno k (by omega))).trans (hf.block k hk hn)⟩
theorem own_frB {w0 w w' : World} {base n size : Nat} {e : TypeId} {v : Value} {xs : List Value} {S : List Nat} (h : w.ownsRow base e size v n xs) (hg : w.grownBy w' v.ownBlock) (hf : Fr S w0 w) (hb : w0.heap.size ≤ base) : Fr S w0 w' := by
  have hno : ∀ k, k < base → some k ≠ v.ownBlock := by
    obtain ⟨h1, ⟨rfl, h2⟩ | ⟨g, cap, cur, rfl, hgb, _⟩⟩ := h
    · intro k _ e; cases e
    · intro k hk e
      injection e with e
      have e2 : k = g := e
      omega
  exact ⟨hg.os.trans hf.os, hg.tape.trans hf.tape, hg.output.trans hf.output, Nat.le_trans hf.size hg.size, fun k hk hn => (hg.block k (Nat.lt_of_lt_of_le hk hf.size) (hno k (by omega))).trans (hf.block k hk hn)⟩
/-- A store into a block of another type leaves the row. -/
theorem own_set {w : World} {base n size g : Nat} {e t : TypeId} {v : Value} {xs : List Value} {cs : Array Value} (h : w.ownsRow base e size v n xs) (hb : Blk w g t cs) (hne : t ≠ e) (i : Nat) (u : Value) : (w.setCell ⟨g, i, none⟩ u).ownsRow base e size v n xs := by
  obtain ⟨h1, h2 | ⟨g', cap, cur, rfl, hgb, hh, h3⟩⟩ := h
  · exact ⟨h1, .inl h2⟩
  · refine ⟨h1, .inr ⟨g', cap, cur, rfl, hgb, ?_, h3⟩⟩
    refine (Below.heap_setCell w ⟨g, i, none⟩ u g' ?_).trans hh
    rintro rfl
    unfold Blk at hb
    rw [hh] at hb
    injection hb with hb
    injection hb with _ h4
    exact hne h4.symm
theorem own_keep {w w' : World} {base n size : Nat} {e : TypeId} {v : Value} {xs : List Value} (h : w.ownsRow base e size v n xs) (hf : Fr [] w w') : w'.ownsRow base e size v n xs := by
  obtain ⟨h1, h2 | ⟨g', cap, cur, rfl, hgb, hh, h3⟩⟩ := h
  · exact ⟨h1, .inl h2⟩
  · exact ⟨h1, .inr ⟨g', cap, cur, rfl, hgb, Blk.fr (S := []) hh hf (by simp), h3⟩⟩
/-- A block of another type is none of the row's. -/
theorem own_blk {w w' : World} {base n size g : Nat} {e t : TypeId} {v : Value} {xs : List Value} {cs : Array Value} (h : w.ownsRow base e size v n xs) (hg : w.grownBy w' v.ownBlock) (hb : Blk w g t cs) (hne : t ≠ e) : Blk w' g t cs := by
  refine (hg.block g hb.lt ?_).trans hb
  obtain ⟨h1, ⟨rfl, h2⟩ | ⟨g', cap, cur, rfl, hgb, hh, _⟩⟩ := h
  · intro e; cases e
  · intro e2
    injection e2 with e2
    have e3 : g = g' := e2
    subst e3
    unfold Blk at hb
    rw [hh] at hb
    injection hb with hb
    injection hb with _ h4
    exact hne h4.symm

theorem run_appR (w : World) (base : Nat) (v : Value) (l : List Rn) (h : OwnR w base v l) (g : Nat) (r : Rn) (hg : Blk w g 139 #[.int .i64 r.1, .int .i64 r.2.1, .int .i64 r.2.2]) (hl : l.length ≤ 1048576) (hbase : base ≤ w.heap.size) :
    ∃ v' w', (Builtin.append_ #[136, 136] 136 #[v, .slice (some ⟨g, 0, none⟩) 1 1]).run Tryd.prog w = .ok v' w' ∧ OwnR w' base v' (l ++ [r]) ∧ w.grownBy w' v.ownBlock ∧ (v'.ownBlock = v.ownBlock ∨ v'.ownBlock = some w.heap.size) := by
  obtain ⟨i, hi, hz, hs, hb⟩ := info_rn'
  have hcells : ∀ j u, ([.int .i64 r.1, .int .i64 r.2.1, .int .i64 r.2.2] : List Value)[j]? = some u → w.cell? ((⟨g, 0, none⟩ : Addr).add j) = some u := by
    intro j u hu
    have hadd : (⟨g, 0, none⟩ : Addr).add j = ⟨g, j, none⟩ := by unfold Addr.add; split <;> simp_all
    rw [hadd, hg.cell j]
    simpa using hu
  obtain ⟨v', w', hrun, h2, h3, _, h5⟩ := run_append_own_at (P := Tryd.prog) w base 136 136 139 i (.agg #[.int .i64 0, .int .i64 0, .int .i64 0]) 3 24 Tryd.underlying136 hi hz hs hb rfl (by decide) v l.length (rCells l) h ⟨g, 0, none⟩ 1 1 [.int .i64 r.1, .int .i64 r.2.1, .int .i64 r.2.2] rfl hcells (fun u hu => by
    simp at hu
    rcases hu with rfl | rfl | rfl <;> rfl) (by unfold maxLen; omega) (by omega) hbase
  refine ⟨v', w', hrun, ?_, h3, h5⟩
  unfold OwnR
  rw [List.length_append, rCells_snoc]
  exact h2
theorem wpList_appR {w : World} {ops : Array Oper} {rest : List Oper} {o : Oper} {a : Act} {Q : Exit → Act → World → Prop} (hgd : o.guard = none) (s x : Operand) (ho : o.op = .call { callee := .builtin .append, args := #[s, x], argTypes := #[136, 136] }) (hty : o.type = 136)
    (base : Nat) (v : Value) (l : List Rn) (hs : a.eval s = v) (hown : OwnR w base v l) (g : Nat) (r : Rn) (hx : a.eval x = .slice (some ⟨g, 0, none⟩) 1 1) (hg : Blk w g 139 #[.int .i64 r.1, .int .i64 r.2.1, .int .i64 r.2.2])
    (hl : l.length ≤ 1048576) (hbase : base ≤ w.heap.size)
    (h : ∀ v' w', OwnR w' base v' (l ++ [r]) → w.grownBy w' v.ownBlock → (v'.ownBlock = v.ownBlock ∨ v'.ownBlock = some w.heap.size) → wpList Tryd.prog ops Q rest (a.put o.dst v') w') : wpList Tryd.prog ops Q (o :: rest) a w := by
  refine wpList_plain hgd fun _ hK => ?_
  obtain ⟨v', w', hrun, h2, h3, h4⟩ := run_appR w base v l hown g r hg hl hbase
  unfold Oper.wp execOp
  simp only [ho, hty, resolve, invoke, builtin, Sem.run_bind, Sem.run_pure, Result.andThen_ok, List.map_toArray, List.map_cons, List.map_nil, hs, hx, hrun]
  exact hK _ _ (h v' w' h2 h3 h4)

def LayP (w : World) (base B : Nat) (l : List Rn) (w' : World) : Prop :=
  ∃ v', Blk w' B 136 #[v'] ∧ OwnR w' base v' l ∧ (∀ w0, Fr [B] w0 w → w0.heap.size ≤ base → Fr [B] w0 w') ∧ w.heap.size ≤ w'.heap.size

theorem own_slice {w : World} {base n size : Nat} {e : TypeId} {v : Value} {xs : List Value} (h : w.ownsRow base e size v n xs) : ∃ A c, v = .slice A n c := by
  obtain ⟨h1, ⟨rfl, rfl⟩ | ⟨g, cap, cur, rfl, _⟩⟩ := h
  · exact ⟨_, _, rfl⟩
  · exact ⟨_, _, rfl⟩

set_option maxHeartbeats 1000000 in
/-- The last part of lay: at is known. -/
theorem lay_last (w : World) (base B : Nat) (l : List Rn) (A : Option Addr) (c n : Nat) (hln : l.length = n) (hB : Blk w B 136 #[.slice A n c]) (hO : OwnR w base (.slice A n c) l) (hbs : base ≤ w.heap.size) (e k x : Nat) (he : e ≤ 1048576) (hx : lastEnd l = x) (hx2 : x ≤ 1048576) (hn : n ≤ 10)
    (hn0 : n = 0 ∨ ∃ g, A = some ⟨g, 0, none⟩ ∧ ∃ y z : Nat, y + z = x ∧ w.cell? ⟨g, (n - 1) * 3, none⟩ = some (.int .i64 y) ∧ w.cell? ⟨g, (n - 1) * 3 + 1, none⟩ = some (.int .i64 z) ∧ n ≤ c ∧ 1 ≤ n) :
    Calls Tryd.prog 118 #[.int .i64 e, .int .i64 k, .pointer (some ⟨B, 0, none⟩)] w fun e' w' => e' = .returned (.tuple #[]) ∧ LayP w base B (layStep l e k) w' := by
  have hc := hB.cell 0
  have hfz := hB.frozen 0
  simp at hc
  have HB := Lib.hid hB
  have HO := Lib.hid hO
  have HS := Lib.hid (show layStep l e k = if x < e then l ++ [(x, e - x, k)] else l by unfold layStep; rw [hx])
  have hBl := hB.lt
  clear hB hO
  rcases hn0 with rfl | ⟨g, rfl, y, z, hyz, hcy, hcz, hnc, i1'⟩
  · have hl0 : l = [] := List.eq_nil_of_length_eq_zero hln
    have hx0 : x = 0 := by rw [← hx, hl0]; rfl
    subst hx0
    clear hx
    by_cases hlt : 0 < e
    · have b1 : decide ((0 : Int) < e) = true := by simp; omega
      have hsub : ((e - 0 : Nat) : Int) = (e : Int) := by omega
      have HLT := Lib.hid hlt
      go_enter Tryd.func118, Tryd.ntmps118
      go_wp2_with (at_builtin; refine wpList_appR rfl _ _ rfl rfl base _ l rfl (World.ownsRow.alloc HO.out _) w.heap.size (0, e - 0, k) rfl (by rw [hsub]; exact Blk.new _ _ _) (by omega) (by simp; omega) ?_; intro v1 W1 hO1 hg1 hob1; have d0 := (own_blk (World.ownsRow.alloc HO.out _) hg1 (HB.out.alloc _) (by decide)).cell 0; have d1 := (own_blk (World.ownsRow.alloc HO.out _) hg1 (HB.out.alloc _) (by decide)).frozen 0; simp at d0; obtain ⟨A1, c1, hv1⟩ := own_slice hO1; generalize (l ++ [(0, e - 0, k)]).length = n1 at hv1; subst hv1)
      go_end0
      refine ⟨rfl, .slice A1 n1 c1, ?_, ?_, fun w0 hf hb => ?_, ?_⟩
      · exact (own_blk (World.ownsRow.alloc HO.out _) hg1 (HB.out.alloc _) (by decide)).set 0 _
      · rw [HS.out, if_pos hlt]
        exact own_set hO1 (own_blk (World.ownsRow.alloc HO.out _) hg1 (HB.out.alloc _) (by decide)) (by decide) _ _
      · exact (own_frB (World.ownsRow.alloc HO.out _) hg1 ((hf).alloc _) hb).setCell (.inl (by simp)) _
      · have := hg1.size
        simp at this ⊢
        omega
    · have b1 : decide ((0 : Int) < e) = false := by simp; omega
      go_enter Tryd.func118, Tryd.ntmps118
      go_wp2_with fail
      go_end0
      refine ⟨rfl, _, HB.out, ?_, fun w0 hf _ => hf, Nat.le_refl _⟩
      rw [HS.out, if_neg hlt]
      exact HO.out
  · have i1 : (0 : Int) ≤ (n : Int) - 1 := by omega
    have b0 : decide ((1 : Int) ≤ n) = true := by simp; omega
    have i2 : (n : Int) - 1 < n := by omega
    have i3 : IntKind.i64.wrap ((n : Int) - 1) = (n : Int) - 1 := IntWalk.i64_in _ (by omega)
    have i4 : ((n : Int) - 1).toNat = n - 1 := by omega
    have i5 : IntKind.i64.wrap ((y : Int) + z) = (x : Int) := (IntWalk.i64_in _ (by omega)).trans (by omega)
    by_cases hlt : x < e
    · have b1 : decide ((x : Int) < e) = true := by simp; omega
      have hsub : ((e - x : Nat) : Int) = (e : Int) - x := by omega
      have i6 : IntKind.i64.wrap ((e : Int) - x) = (e : Int) - x := IntWalk.i64_in _ (by omega)
      have HLT := Lib.hid hlt
      have hl10 : l.length ≤ 1048576 := by omega
      clear hx hyz hln
      go_enter Tryd.func118, Tryd.ntmps118
      go_wp2_with fail
      go_quiet (fail)
      have hO2 : (w.drewN nq).ownsRow base 139 3 (.slice (some ⟨g, 0, none⟩) n c) l.length (rCells l) := HO.out
      have hB2 : Blk (w.drewN nq) B 136 #[.slice (some ⟨g, 0, none⟩) n c] := HB.out
      have hs2 : (w.drewN nq).heap.size = w.heap.size := rfl
      have hfr2 : ∀ w0, Fr [B] w0 w → Fr [B] w0 (w.drewN nq) := fun w0 h => h.drewN nq
      generalize w.drewN nq = w2 at *
      have e0 := hB2.cell 0
      simp at e0
      have e1 := hB2.frozen 0
      have hbs2 : base ≤ w2.heap.size := by omega
      have HS2 := Lib.hid hs2
      clear hs2
      go_wp2_with (at_builtin; refine wpList_appR rfl _ _ rfl rfl base _ l rfl (World.ownsRow.alloc hO2 _) _ (x, e - x, k) rfl (by rw [hsub]; exact Blk.new _ _ _) (by omega) (by simp; omega) ?_; intro v1 W1 hO1 hg1 hob1; have d0 := (own_blk (World.ownsRow.alloc hO2 _) hg1 (hB2.alloc _) (by decide)).cell 0; have d1 := (own_blk (World.ownsRow.alloc hO2 _) hg1 (hB2.alloc _) (by decide)).frozen 0; simp at d0; obtain ⟨A1, c1, hv1⟩ := own_slice hO1; generalize (l ++ [(x, e - x, k)]).length = n1 at hv1; subst hv1)
      go_end0
      refine ⟨rfl, .slice A1 n1 c1, ?_, ?_, fun w0 hf hb => ?_, ?_⟩
      · exact (own_blk (World.ownsRow.alloc hO2 _) hg1 (hB2.alloc _) (by decide)).set 0 _
      · rw [HS.out, if_pos hlt]
        exact own_set hO1 (own_blk (World.ownsRow.alloc hO2 _) hg1 (hB2.alloc _) (by decide)) (by decide) _ _
      · exact (own_frB (World.ownsRow.alloc hO2 _) hg1 ((hfr2 w0 hf).alloc _) hb).setCell (.inl (by simp)) _
      · have := hg1.size
        have h2 := HS2.out
        simp at this ⊢
        omega
    · have b1 : decide ((x : Int) < e) = false := by simp; omega
      go_enter Tryd.func118, Tryd.ntmps118
      go_wp2_with fail
      go_quiet (fail)
      go_wp2_with fail
      go_end0
      refine ⟨rfl, _, HB.out, ?_, fun w0 hf _ => hf.drewN _, Nat.le_refl _⟩
      rw [HS.out, if_neg hlt]
      exact HO.out

/-- One call of lay. -/
theorem lay_any (w : World) (base B : Nat) (v : Value) (l : List Rn) (hB : Blk w B 136 #[v]) (hO : OwnR w base v l) (hbs : base ≤ w.heap.size) (e k : Nat) (he : e ≤ 1048576) (hx2 : lastEnd l ≤ 1048576) (hn : l.length ≤ 10) :
    Calls Tryd.prog 118 #[.int .i64 e, .int .i64 k, .pointer (some ⟨B, 0, none⟩)] w fun e' w' => e' = .returned (.tuple #[]) ∧ LayP w base B (layStep l e k) w' := by
  obtain ⟨A, c, rfl⟩ := own_slice hO
  refine lay_last w base B l A c l.length rfl hB hO hbs e k (lastEnd l) he rfl hx2 hn ?_
  by_cases h0 : l.length = 0
  · exact .inl h0
  · obtain ⟨g, cap, hv, _, _⟩ := World.ownsRow.form hO (by omega)
    have hcells := World.ownsRow.cells hO (g := g) (by rw [hv]; rfl)
    injection hv with hA _ hcc
    subst hA
    refine .inr ⟨g, rfl, ?_⟩
    obtain ⟨r, hr⟩ : ∃ r, l[l.length - 1]? = some r := ⟨_, List.getElem?_eq_getElem (by omega)⟩
    have hle : lastEnd l = r.1 + r.2.1 := by
      unfold lastEnd
      rw [List.getLast?_eq_getElem?, hr]
    obtain ⟨e1, e2, _⟩ := rCells_get l _ r hr
    have hadd : ∀ j, (⟨g, 0, none⟩ : Addr).add j = ⟨g, j, none⟩ := fun j => by unfold Addr.add; split <;> simp_all
    have f1 := hcells _ _ e1
    have f2 := hcells _ _ e2
    rw [hadd] at f1 f2
    refine ⟨r.1, r.2.1, hle.symm, by rw [Nat.mul_comm]; exact f1, by rw [Nat.mul_comm]; exact f2, ?_, by omega⟩
    obtain ⟨h1, ⟨h2, _⟩ | ⟨g', cap', cur, h2, _, _, hnc, _⟩⟩ := hO
    · cases h2
    · injection h2 with _ _ h3
      omega
end Go.Proofs.YtcagljjbiodcoaaDoor
