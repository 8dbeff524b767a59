/- Several texts in one. -/
import Derived.Test.YtcagljjbiodcoaaDoorGA
import Derived.Test.YtcagljjbiodcoaaDoorGD
import Derived.Laws.AppendOwn
import Derived.Deep.QuietTactic
import Derived.BigQuiet
/- The document's answer for layer 14: lists. -/
namespace Go.Proofs.YtcagljjbiodcoaaDoor
set_option linter.unusedVariables false
open Go.RowKit

/-- A slab's class, live blocks, first free one. -/
def slabC (h : Nat × Nat × Nat) (r : Nat) : Value := if r = 0 then .int .i64 h.1 else if r = 1 then .int .i64 h.2.1 else if r = 2 then .int .u32 h.2.2 else .int .i64 0
def slabsF (a : Nat) (hh : Nat → Nat × Nat × Nat) : Array Value := ((List.range (a * 5)).map fun k => slabC (hh (k / 5)) (k % 5)).toArray
theorem slabsF_size (a : Nat) (hh : Nat → Nat × Nat × Nat) : (slabsF a hh).size = a * 5 := by simp [slabsF]
theorem slabsF_get (a : Nat) (hh : Nat → Nat × Nat × Nat) (i r : Nat) (h : i < a) (hr : r < 5) : (slabsF a hh)[i * 5 + r]? = some (slabC (hh i) r) := by
  have e1 : (i * 5 + r) / 5 = i := by omega
  have e2 : (i * 5 + r) % 5 = r := by omega
  have : i * 5 + r < a * 5 := by omega
  simp [slabsF, this, e1, e2]
theorem slabsF_ext (a : Nat) (hh : Nat → Nat × Nat × Nat) (cs : Array Value) (hs : cs.size = a * 5) (h : ∀ i r, i < a → r < 5 → cs[i * 5 + r]? = some (slabC (hh i) r)) : cs = slabsF a hh := by
  apply Array.ext
  · rw [hs, slabsF_size]
  · intro k h1 h2
    have hk : k < a * 5 := by omega
    have e := h (k / 5) (k % 5) (by omega) (by omega)
    rw [show k / 5 * 5 + k % 5 = k by omega] at e
    have e2 := slabsF_get a hh (k / 5) (k % 5) (by omega) (by omega)
    rw [show k / 5 * 5 + k % 5 = k by omega] at e2
    rw [Array.getElem?_eq_getElem h1] at e
    rw [Array.getElem?_eq_getElem h2] at e2
    exact Option.some.inj (e.trans e2.symm)
/-- The document's lists in memory. -/
structure IsR (w : World) (p gh gi a : Nat) (hh : Nat → Nat × Nat × Nat) (inn : Nat → Int) : Prop where
  st : Blk w p 125 #[.slice (some ⟨gh, 0, none⟩) a a, .slice (some ⟨gi, 0, none⟩) a a]
  H : Blk w gh 70 (slabsF a hh)
  I : Blk w gi 3 (intsF a inn)
  a1 : 7 ≤ a
  a2 : a ≤ 64
  le : ∀ x, x < a → -1 ≤ inn x ∧ inn x ≤ 9
section
variable {w w' : World} {p gh gi a : Nat} {hh : Nat → Nat × Nat × Nat} {inn : Nat → Int} {S : List Nat}
theorem IsR.fr (h : IsR w p gh gi a hh inn) (hf : Fr S w w') (h1 : p ∉ S) (h2 : gh ∉ S) (h3 : gi ∉ S) : IsR w' p gh gi a hh inn := ⟨h.st.fr hf h1, h.H.fr hf h2, h.I.fr hf h3, h.a1, h.a2, h.le⟩
theorem IsR.fr0 (h : IsR w p gh gi a hh inn) (hf : Fr [] w w') : IsR w' p gh gi a hh inn := h.fr hf (by simp) (by simp) (by simp)
theorem IsR.alloc (h : IsR w p gh gi a hh inn) (o : Obj) : IsR (w.alloc o) p gh gi a hh inn := h.fr0 ((Fr.refl [] w).alloc o)
theorem IsR.drew (h : IsR w p gh gi a hh inn) : IsR w.drew p gh gi a hh inn := h.fr0 (Fr.refl [] w).drew
theorem IsR.drewN (h : IsR w p gh gi a hh inn) (n : Nat) : IsR (w.drewN n) p gh gi a hh inn := h.fr0 ((Fr.refl [] w).drewN n)
theorem IsR.nes (h : IsR w p gh gi a hh inn) : p ≠ gh ∧ p ≠ gi ∧ gh ≠ gi := ⟨h.st.ne_ h.H (by decide), h.st.ne_ h.I (by decide), h.H.ne_ h.I (by decide)⟩
theorem IsR.setI (h : IsR w p gh gi a hh inn) (x : Nat) (v : Int) (hv : -1 ≤ v ∧ v ≤ 9) : IsR (w.setCell ⟨gi, x, none⟩ (.int .i64 v)) p gh gi a hh (up inn x v) := by
  obtain ⟨n1, n2, n3⟩ := h.nes
  refine ⟨h.st.far (by simpa using n2) _, h.H.far (by simpa using n3) _, h.I.setF _ x v (fun j _ => rfl), h.a1, h.a2, fun y hy => ?_⟩
  by_cases e : y = x
  · rw [e, up_same]; exact hv
  · rw [up_ne _ _ e]; exact h.le y hy
end


/-- make([]T, n), T of any number of cells, at whatever world. -/
theorem run_make_rows {P : Program} (t e : TypeId) (z : Value) (k bytes : Nat) (ht : P.underlying t = some (.slice e)) (hinfo : (P.info? e).map (fun i => (i.zero, i.size, i.bytes)) = some (some z, k, bytes))
    (kl kc : IntKind) (n : Nat) (hbytes : bytes * n ≤ 281474976710656) (h63 : n ≤ 9223372036854775807) (w : World) :
    (Instr.makeSlice t (.int kl (n : Int)) (.int kc (n : Int))).run P w = .ok (.slice (some ⟨w.heap.size, 0, none⟩) n n) (w.alloc (.cells (madeCells z.cells (n * k)) e)) := by
  obtain ⟨i, hi, hzz⟩ := Option.map_eq_some_iff.1 hinfo
  simp only [Prod.mk.injEq] at hzz
  obtain ⟨hz, hs, hb⟩ := hzz
  have hb' : (i.bytes : Int) * (n : Int) ≤ 281474976710656 := by
    have h : ((i.bytes * n : Nat) : Int) ≤ 281474976710656 := by rw [hb]; omega
    rwa [Int.natCast_mul] at h
  have hr := run_make (P := P) w t e i z ht hi hz kl kc n n (by omega) (Int.le_refl _) hb' (by omega)
  simp only [Int.toNat_natCast, hs] at hr
  exact hr
theorem made_slabs (a : Nat) : madeCells #[.int .i64 0, .int .i64 0, .int .u32 0, .int .i64 0, .int .i64 0] (a * 5) = slabsF a (fun _ => (0, 0, 0)) := by
  refine slabsF_ext a _ _ (by simp [madeCells]) (fun i r hi hr => ?_)
  have h : i * 5 + r < a * 5 := by omega
  have e : (i * 5 + r) % 5 = r := by omega
  simp only [madeCells, Array.getElem?_map, Array.getElem?_range, h, if_pos, Option.map_some, List.size_toArray, List.length_cons, List.length_nil, Nat.reduceAdd, e]
  rcases (by omega : r = 0 ∨ r = 1 ∨ r = 2 ∨ r = 3 ∨ r = 4) with rfl | rfl | rfl | rfl | rfl <;> rfl
theorem info_slab : (Tryd.prog.info? 70).map (fun i => (i.zero, i.size, i.bytes)) = some (some (.agg #[.int .i64 0, .int .i64 0, .int .u32 0, .int .i64 0, .int .i64 0]), 5, 40) := by kernel_rfl

def R14New (w : World) (a : Nat) (e : Ending) (w' : World) : Prop := ∃ p gh gi, e = .returned (.pointer (some ⟨p, 0, none⟩)) ∧ IsR w' p gh gi a (fun _ => (0, 0, 0)) (fun _ => 0) ∧ w.heap.size ≤ p ∧ w.heap.size ≤ gh ∧ w.heap.size ≤ gi ∧ Fr [] w w'
theorem r14mk (w : World) (a : Nat) (a1 : 7 ≤ a) (a2 : a ≤ 64) {t0 t1 : TypeId} {c0 c1 : Array Value} (gh gi : Nat)
    (h : (gi = w.heap.size ∧ gh = w.heap.size + 1 ∧ t0 = 3 ∧ t1 = 70 ∧ c0 = intsF a (fun _ => 0) ∧ c1 = slabsF a (fun _ => (0, 0, 0))) ∨ (gh = w.heap.size ∧ gi = w.heap.size + 1 ∧ t0 = 70 ∧ t1 = 3 ∧ c0 = slabsF a (fun _ => (0, 0, 0)) ∧ c1 = intsF a (fun _ => 0))) :
    R14New w a (.returned (.pointer (some ⟨w.heap.size + 1 + 1, 0, none⟩))) (((w.alloc (.cells c0 t0)).alloc (.cells c1 t1)).alloc (.cells #[.slice (some ⟨gh, 0, none⟩) a a, .slice (some ⟨gi, 0, none⟩) a a] 125)).drew := by
  have b0 := ((Blk.new w t0 c0).alloc (.cells c1 t1)).alloc (.cells #[.slice (some ⟨gh, 0, none⟩) a a, .slice (some ⟨gi, 0, none⟩) a a] 125)
  have b1 := (Blk.new (w.alloc (.cells c0 t0)) t1 c1).alloc (.cells #[.slice (some ⟨gh, 0, none⟩) a a, .slice (some ⟨gi, 0, none⟩) a a] 125)
  have b2 := Blk.new ((w.alloc (.cells c0 t0)).alloc (.cells c1 t1)) 125 #[.slice (some ⟨gh, 0, none⟩) a a, .slice (some ⟨gi, 0, none⟩) a a]
  rw [World.size_alloc] at b1
  rw [World.size_alloc, World.size_alloc] at b2
  have f := ((((Fr.refl [] w).alloc (.cells c0 t0)).alloc (.cells c1 t1)).alloc (.cells #[.slice (some ⟨gh, 0, none⟩) a a, .slice (some ⟨gi, 0, none⟩) a a] 125)).drew
  rcases h with ⟨rfl, rfl, rfl, rfl, rfl, rfl⟩ | ⟨rfl, rfl, rfl, rfl, rfl, rfl⟩
  · exact ⟨_, _, _, rfl, ⟨b2.drew, b1.drew, b0.drew, a1, a2, fun _ _ => by omega⟩, by omega, by omega, by omega, f⟩
  · exact ⟨_, _, _, rfl, ⟨b2.drew, b0.drew, b1.drew, a1, a2, fun _ _ => by omega⟩, by omega, by omega, by omega, f⟩
set_option maxRecDepth 100000 in
theorem r14begin (w : World) (a : Nat) (a1 : 7 ≤ a) (a2 : a ≤ 64) : Calls Tryd.prog 38 #[.int .i64 a] w (R14New w a) := by
  have hmi : ∀ w, (Instr.makeSlice 59 (.int .i64 a) (.int .i64 a)).run Tryd.prog w = .ok (.slice (some ⟨w.heap.size, 0, none⟩) a a) (w.alloc (.cells (intsF a (fun _ => 0)) 3)) := fun w => run_make_F 59 3 Tryd.underlying59 info_int .i64 .i64 a (by omega) w
  have hms : ∀ w, (Instr.makeSlice 123 (.int .i64 a) (.int .i64 a)).run Tryd.prog w = .ok (.slice (some ⟨w.heap.size, 0, none⟩) a a) (w.alloc (.cells (slabsF a (fun _ => (0, 0, 0))) 70)) := fun w => by
    rw [← made_slabs a]
    exact run_make_rows 123 70 _ 5 40 Tryd.underlying123 info_slab .i64 .i64 a (by omega) (by omega) w
  go_enter Tryd.func38, Tryd.ntmps38
  go_wp2_with fail
  go_region
  all_goals
    go_wp2_with fail
    go_ret
    first | exact r14mk w a a1 a2 _ _ (.inl ⟨rfl, rfl, rfl, rfl, rfl, rfl⟩) | exact r14mk w a a1 a2 _ _ (.inr ⟨rfl, rfl, rfl, rfl, rfl, rfl⟩)
end Go.Proofs.YtcagljjbiodcoaaDoor

/- The document's lists: All, First, Same. -/
namespace Go.Proofs.YtcagljjbiodcoaaDoor
set_option linter.unusedVariables false
open Go.RowKit

/-- The first k slabs of a list. -/
def preL (inn : Nat → Int) (c : Int) (k : Nat) : List Nat := (List.range k).filter fun y => decide (inn y = c)
theorem preL_succ (inn : Nat → Int) (c : Int) (k : Nat) : preL inn c (k + 1) = if inn k = c then preL inn c k ++ [k] else preL inn c k := by
  unfold preL
  rw [List.range_succ, List.filter_append]
  by_cases h : inn k = c
  · rw [if_pos h, List.filter_cons_of_pos (by simpa using h)]; rfl
  · rw [if_neg h, List.filter_cons_of_neg (by simpa using h)]; simp
theorem preL_len (inn : Nat → Int) (c : Int) (k : Nat) : (preL inn c k).length ≤ k := by
  have := List.length_filter_le (fun y => decide (inn y = c)) (List.range k)
  rw [List.length_range] at this
  exact this
theorem preL_all (a : Nat) (inn : Nat → Int) (c : Int) (h : 0 ≤ c) : preL inn c a = lst a inn c.toNat := by
  unfold preL lst
  rw [Int.toNat_of_nonneg h]

theorem wpList_append1 {w : World} {ops : Array Oper} {rest : List Oper} {o : Oper} {a : Act} {Q : Exit → Act → World → Prop} (hgd : o.guard = none) (s x : Operand) (ho : o.op = .call { callee := .builtin .append, args := #[s, x], argTypes := #[59, 59] })
    (base : Nat) (v : Value) (l : List Nat) (hs : a.eval s = v) (y : Nat) (W0 : World) (hW : w = W0.alloc (.cells #[.int .i64 y] 3)) (hown : W0.ownsRow base 3 1 v l.length (intC l)) (hx : a.eval x = .slice (some ⟨W0.heap.size, 0, none⟩) 1 1)
    (hl : l.length ≤ 1048576) (hbase : base ≤ W0.heap.size)
    (h : ∀ v' w', w'.ownsRow base 3 1 v' (l ++ [y]).length (intC (l ++ [y])) → (∀ w0, Fr [] w0 W0 → w0.heap.size ≤ base → Fr [] w0 w') → wpList Tryd.prog ops Q rest (a.put o.dst v') w') : wpList Tryd.prog ops Q (o :: rest) a w := by
  subst hW
  obtain ⟨i0, hi, hz0, hz1, hz2⟩ := info_parts info_int
  refine wpList_append_own _ hgd s x 59 ho base 3 i0 (.int .i64 0) 1 8 Tryd.underlying59 hi hz0 hz1 hz2 rfl (by decide) v _ _ hs (hown.alloc _) ⟨W0.heap.size, 0, none⟩ 1 1 [.int .i64 y] hx rfl (cells_new1 _ _ _) (by simp [Value.oneCell']) (by unfold maxLen; omega) (by omega) (by simp; omega) ?_
  intro v' w' hown' hgrow _
  refine h v' w' (by rw [List.length_append, List.length_singleton, show intC (l ++ [y]) = intC l ++ [.int .i64 y] by simp [intC]]; exact hown') (fun w0 hf hb => ?_)
  have f1 : Fr [] w0 (W0.alloc (.cells #[.int .i64 y] 3)) := hf.alloc _
  exact ⟨hgrow.os.trans f1.os, hgrow.tape.trans f1.tape, hgrow.output.trans f1.output, Nat.le_trans f1.size hgrow.size, fun k hk hn => (hgrow.block k (Nat.lt_of_lt_of_le hk f1.size) (fun e => by
    have := (hown.lt k e.symm).1
    omega)).trans (f1.block k hk hn)⟩

variable {w : World} {p gh gi a : Nat} {hh : Nat → Nat × Nat × Nat} {inn : Nat → Int}
def OwnI (w : World) (l : List Nat) (e : Ending) (w' : World) : Prop := ∃ v, e = .returned v ∧ w'.ownsRow w.heap.size 3 1 v l.length (intC l) ∧ Fr [] w w'
set_option maxRecDepth 100000 in
theorem r14all_yes (h : IsR w p gh gi a hh inn) (c : Int) (hc : 0 ≤ c ∧ c ≤ 9) : Calls Tryd.prog 44 #[.pointer (some ⟨p, 0, none⟩), .int .i64 c] w (OwnI w (lst a inn c.toNat)) := by
  have c1 : decide (0 ≤ c) = true := by simpa using hc.1
  have c2 : decide (c ≤ 9) = true := by simpa using hc.2
  have ha := h.a2
  have HL := Lib.hid (preL_all a inn c hc.1)
  have HP := Lib.hid h
  clear h hc
  go_enter Tryd.func44, Tryd.ntmps44
  go_wp2_with fail
  go_loopw [5, 6] (fun v i W => ∃ k : Nat, k ≤ a ∧ i = .int .i64 k ∧ W.ownsRow w.heap.size 3 1 v (preL inn c k).length (intC (preL inn c k)) ∧ Fr [] w W) (fun _ i _ => a - (intOf i).toNat)
  case atStart => exact ⟨0, by omega, rfl, World.ownsRow_nil _ _ _ _, Fr.refl _ _⟩
  case round =>
    obtain ⟨k, hk, rfl, hO, hF⟩ := hrel
    have HF := Lib.hid hF
    have HO := Lib.hid hO
    have hs1 := (HP.out.fr0 hF).st.cell 1
    simp at hs1
    clear hO
    by_cases hlt : k < a
    · have hI := (HP.out.fr0 hF).I.cellF k hlt
      have b1 : decide ((k : Int) < a) = true := by simp; omega
      have b1' : decide (k < a) = true := by simp; omega
      have hg2 : (0 : Int) ≤ k := by omega
      have hg3 : (k : Int) < a := by omega
      have w1 : IntKind.i64.wrap ((k : Int) + 1) = (k : Int) + 1 := IntWalk.i64_in _ (by omega)
      have HS := Lib.hid (preL_succ inn c k)
      have hpl := preL_len inn c k
      clear hF
      by_cases he : inn k = c
      · have b2 : ((inn k : Int) == c) = true := by simpa using he
        have HS2 := Lib.hid (HS.out.trans (if_pos he))
        generalize inn k = ik at *
        clear he HS
        go_wp2_with (at_builtin; refine wpList_append1 rfl _ _ rfl w.heap.size _ _ rfl k wr rfl HO.out rfl (by omega) HF.out.size ?_; intro v1 W1 hO1 hF1)
        go_roundw
        case rel => exact ⟨k + 1, by omega, by go_num, by rw [HS2.out]; exact hO1, hF1 w HF.out (Nat.le_refl _)⟩
        case measure => simp [intOf]; omega
      · have b2 : ((inn k : Int) == c) = false := by simpa using he
        have HS2 := Lib.hid (HS.out.trans (if_neg he))
        generalize inn k = ik at *
        clear he HS
        go_wp2_with fail
        go_roundw
        case rel => exact ⟨k + 1, by omega, by go_num, by rw [HS2.out]; exact HO.out, HF.out⟩
        case measure => simp [intOf]; omega
    · obtain rfl : k = a := by omega
      have b1 : decide ((k : Int) < k) = false := by simp
      have b1' : decide (k < k) = false := by simp
      clear hF
      go_wp2_with fail
      go_ret
      exact ⟨_, rfl, by rw [← HL.out]; exact HO.out, HF.out⟩

set_option maxRecDepth 100000 in
theorem r14all_no (h : IsR w p gh gi a hh inn) (c : Int) (hc : ¬ (0 ≤ c ∧ c ≤ 9)) : Calls Tryd.prog 44 #[.pointer (some ⟨p, 0, none⟩), .int .i64 c] w (OwnI w []) := by
  have ha := h.a2
  have HP := Lib.hid h
  have H0 := Lib.hid (World.ownsRow_nil (w := w) w.heap.size 3 1)
  have hcc : (decide (0 ≤ c) = false) ∨ (decide (0 ≤ c) = true ∧ decide (c ≤ 9) = false) := by
    by_cases h1 : 0 ≤ c
    · exact .inr ⟨by simpa using h1, by simp; omega⟩
    · exact .inl (by simpa using h1)
  clear h hc
  rcases hcc with c1 | ⟨c1, c2⟩
  all_goals
    go_enter Tryd.func44, Tryd.ntmps44
    go_wp2_with fail
    go_loopw [5, 6] (fun v i W => ∃ k : Nat, k ≤ a ∧ i = .int .i64 k ∧ v = .slice none 0 0 ∧ Fr [] w W) (fun _ i _ => a - (intOf i).toNat)
    case atStart => exact ⟨0, by omega, rfl, rfl, Fr.refl _ _⟩
    case round =>
      obtain ⟨k, hk, rfl, rfl, hF⟩ := hrel
      have HF := Lib.hid hF
      have hs1 := (HP.out.fr0 hF).st.cell 1
      simp at hs1
      by_cases hlt : k < a
      · have hI := (HP.out.fr0 hF).I.cellF k hlt
        have b1 : decide ((k : Int) < a) = true := by simp; omega
        have b1' : decide (k < a) = true := by simp; omega
        have hg2 : (0 : Int) ≤ k := by omega
        have hg3 : (k : Int) < a := by omega
        have w1 : IntKind.i64.wrap ((k : Int) + 1) = (k : Int) + 1 := IntWalk.i64_in _ (by omega)
        clear hF
        have hb2 : ((inn k : Int) == c) = true ∨ ((inn k : Int) == c) = false := by cases ((inn k : Int) == c) <;> simp
        generalize inn k = ik at *
        rcases hb2 with b2 | b2
        all_goals
          go_wp2_with fail
          go_roundw
          case rel => exact ⟨k + 1, by omega, by go_num, rfl, HF.out⟩
          case measure => simp [intOf]; omega
      · obtain rfl : k = a := by omega
        have b1 : decide ((k : Int) < k) = false := by simp
        have b1' : decide (k < k) = false := by simp
        clear hF
        go_wp2_with fail
        go_ret
        exact ⟨_, rfl, (show World.ownsRow _ _ _ _ _ 0 [] from World.ownsRow_nil _ _ _ _), HF.out⟩
theorem r14all (h : IsR w p gh gi a hh inn) (c : Int) : Calls Tryd.prog 44 #[.pointer (some ⟨p, 0, none⟩), .int .i64 c] w (OwnI w (lstI a inn c)) := by
  unfold lstI
  by_cases hc : 0 ≤ c ∧ c ≤ 9
  · rw [if_pos hc]; exact r14all_yes h c hc
  · rw [if_neg hc]; exact r14all_no h c hc

theorem lstI_lt {a : Nat} {inn : Nat → Int} {c : Int} {y : Nat} (h : y ∈ lstI a inn c) : y < a := by
  unfold lstI at h
  split at h
  · exact (lst_lt h).1
  · cases h
theorem lstI_len (a : Nat) (inn : Nat → Int) (c : Int) : (lstI a inn c).length ≤ a := by
  unfold lstI
  split
  · exact lst_len _ _ _
  · exact Nat.zero_le _
def firstA (a : Nat) (inn : Nat → Int) (c : Int) : Int := (hd1 (lstI a inn c) : Int) - 1
theorem firstA_eq (t : TM) (inn : Nat → Int) (c : Int) : firstV t inn c = firstA t.a inn c := by
  unfold firstV firstA lstI
  split <;> rfl
set_option maxRecDepth 100000 in
theorem r14first (h : IsR w p gh gi a hh inn) (c : Int) : Calls Tryd.prog 42 #[.pointer (some ⟨p, 0, none⟩), .int .i64 c] w fun e w' => e = .returned (.int .i64 (firstA a inn c)) ∧ Fr [] w w' := by
  have HA := Lib.hid (r14all h c)
  unfold firstA
  generalize lstI a inn c = l at *
  clear h
  rcases l with _ | ⟨y, l⟩
  · rw [show ((hd1 [] : Nat) : Int) - 1 = -1 from rfl]
    go_enter Tryd.func42, Tryd.ntmps42
    go_wp2_with fail
    with_reducible refine HA.out.mono ?_
    rintro e w1 ⟨v, rfl, hv, f1⟩
    obtain ⟨ad, cap, rfl, hrow⟩ := own_row hv
    clear HA hv
    go_wp2_with fail
    go_ret
    exact ⟨rfl, f1⟩
  · rw [show (hd1 (y :: l) : Int) - 1 = y by simp [hd1]]
    go_enter Tryd.func42, Tryd.ntmps42
    go_wp2_with fail
    with_reducible refine HA.out.mono ?_
    rintro e w1 ⟨v, rfl, hv, f1⟩
    obtain ⟨ad, cap, rfl, hrow⟩ := own_row hv
    clear HA hv
    obtain ⟨g, rfl, hgb, hri⟩ := hrow (by simp)
    have cY := hri.cell 0 (by simp)
    rw [show (y :: l)[0] = y from rfl] at cY
    have e1 : (((y :: l).length : Int) == 0) = false := by simp <;> omega
    have hg1 : (0 : Int) < ((y :: l).length : Int) := by simp <;> omega
    have hg1' : 0 < (y :: l).length := by simp
    generalize (y :: l).length = n at *
    clear hrow hri
    go_wp2_with fail
    go_ret
    exact ⟨rfl, f1⟩
set_option maxRecDepth 100000 in
theorem r14same {w : World} {l : List Nat} {b1 b2 c1 c2 : Nat} {d1 d2 : Option Addr} (h1 : RowV w b1 d1 c1 l) (h2 : RowV w b2 d2 c2 l) (hl : l.length ≤ 1048576) :
    Calls Tryd.prog 43 #[.slice d1 l.length c1, .slice d2 l.length c2] w fun e w' => e = .returned (.bool true) ∧ Fr [] w w' := by
  have H1 := Lib.hid h1
  have H2 := Lib.hid h2
  generalize hn : l.length = n at *
  have HN := Lib.hid hn
  clear h1 h2 hn
  go_enter Tryd.func43, Tryd.ntmps43
  go_wp2_with fail
  go_loopw [5] (fun i W => ∃ k : Nat, k ≤ n ∧ i = .int .i64 k ∧ Fr [] w W) (fun i _ => n - (intOf i).toNat)
  case atStart => exact ⟨0, by omega, rfl, Fr.refl _ _⟩
  case round =>
    obtain ⟨k, hk, rfl, hF⟩ := hrel
    have HF := Lib.hid hF
    by_cases hlt : k < n
    · have hkl : k < l.length := by have := HN.out; omega
      obtain ⟨g1, rfl, _, r1⟩ := H1.out (by omega)
      obtain ⟨g2, rfl, _, r2⟩ := H2.out (by omega)
      have cY := fun q => ((r1.fr hF (by simp)).drewN q).cell k hkl
      have cZ := fun q => ((r2.fr hF (by simp)).drewN q).cell k hkl
      have b1 : decide ((k : Int) < n) = true := by simp; omega
      have b1' : decide (k < n) = true := by simp; omega
      have hg2 : (0 : Int) ≤ k := by omega
      have hg3 : (k : Int) < n := by omega
      have w1 : IntKind.i64.wrap ((k : Int) + 1) = (k : Int) + 1 := IntWalk.i64_in _ (by omega)
      generalize l[k] = y at *
      have e1 : ((y : Int) != y) = false := by simp
      clear hF r1 r2
      go_wp2_with fail
      go_quiet (fail)
      go_wp2_with fail
      rename_i nq
      go_roundw
      case rel => exact ⟨k + 1, by omega, by go_num, HF.out.drewN nq⟩
      case measure => simp [intOf]; omega
    · obtain rfl : k = n := by omega
      have b1 : decide ((k : Int) < k) = false := by simp
      have b1' : decide (k < k) = false := by simp
      clear hF
      go_wp2_with fail
      go_ret
      exact ⟨rfl, HF.out⟩
end Go.Proofs.YtcagljjbiodcoaaDoor

/- The document's lists: Insert, Remove, Set. -/
namespace Go.Proofs.YtcagljjbiodcoaaDoor
set_option linter.unusedVariables false
open Go.RowKit

variable {w : World} {p gh gi a : Nat} {hh : Nat → Nat × Nat × Nat} {inn : Nat → Int}
/-- The walk's tests of 'c < 0 || c > 9'. -/
theorem cls_no {c : Int} (hc : ¬ (0 ≤ c ∧ c ≤ 9)) : (decide (c < 0) = true) ∨ (decide (c < 0) = false ∧ decide (9 < c) = true) := by
  by_cases h : c < 0
  · exact .inl (by simpa using h)
  · exact .inr ⟨by simpa using h, by simp; omega⟩
theorem cls_yes {c : Int} (hc : 0 ≤ c ∧ c ≤ 9) : decide (c < 0) = false ∧ decide (9 < c) = false := ⟨by simp; omega, by simp; omega⟩
theorem slb_no {x : Int} {a : Nat} (hx : ¬ (0 ≤ x ∧ x < a)) : (decide (x < 0) = true) ∨ (decide (x < 0) = false ∧ decide ((a : Int) ≤ x) = true) := by
  by_cases h : x < 0
  · exact .inl (by simpa using h)
  · exact .inr ⟨by simpa using h, by simp; omega⟩

set_option maxRecDepth 100000 in
theorem r14ins (h : IsR w p gh gi a hh inn) (c x : Int) : Calls Tryd.prog 85 #[.pointer (some ⟨p, 0, none⟩), .int .i64 c, .int .i64 x] w fun e w' => e = .returned (.int .i64 (insE a inn c x)) ∧ IsR w' p gh gi a hh (insI a inn c x) ∧ Fr [gi] w w' := by
  have hs0 := h.st.cell 0
  have hs1 := h.st.cell 1
  simp at hs0 hs1
  by_cases hc : 0 ≤ c ∧ c ≤ 9
  · obtain ⟨c1, c2⟩ := cls_yes hc
    by_cases hx : 0 ≤ x ∧ x < (a : Int)
    · obtain ⟨x, rfl⟩ : ∃ y : Nat, x = y := ⟨x.toNat, by omega⟩
      have hxa : x < a := by omega
      have hr : rightE a c x = 0 := by unfold rightE; rw [if_neg (fun k => k hc), if_neg (fun k => k hx)]
      have x1 : decide ((x : Int) < 0) = false := by simp
      have x2 : decide ((a : Int) ≤ x) = false := by simp; omega
      have x2' : decide (a ≤ x) = false := by simp; omega
      have hg2 : (0 : Int) ≤ x := by omega
      have hg3 : (x : Int) < a := by omega
      have hI := h.I.cellF x hxa
      have hz := h.I.frozen x
      by_cases hn : 0 ≤ inn x
      · have hE : insE a inn c x = 8 := by unfold insE; rw [if_neg (fun k => k hr), Int.toNat_natCast, if_pos hn]
        unfold insI
        rw [hE, if_neg (by decide)]
        have b1 : decide (0 ≤ inn x) = true := by simpa using hn
        have HP := Lib.hid h
        generalize inn x = ix at *
        clear h hE hr hc hx hn
        go_enter Tryd.func85, Tryd.ntmps85
        go_wp2_with fail
        go_ret
        exact ⟨rfl, HP.out, Fr.refl _ _⟩
      · have hE : insE a inn c x = 0 := by unfold insE; rw [if_neg (fun k => k hr), Int.toNat_natCast, if_neg hn]
        unfold insI
        rw [hE, if_pos rfl, Int.toNat_natCast]
        have b1 : decide (0 ≤ inn x) = false := by simpa using hn
        have HP := Lib.hid (h.setI x c (by omega))
        have HF := Lib.hid (Fr.setCell (Fr.refl [gi] w) (p := ⟨gi, x, none⟩) (.inl (by simp)) (.int .i64 c))
        generalize inn x = ix at *
        clear h hE hr hc hx hn
        go_enter Tryd.func85, Tryd.ntmps85
        go_wp2_with fail
        go_ret
        exact ⟨rfl, HP.out, HF.out⟩
    · have hr : rightE a c x = 6 := by unfold rightE; rw [if_neg (fun k => k hc), if_pos hx]
      have hE : insE a inn c x = 6 := by unfold insE; rw [hr, if_pos (by decide)]
      unfold insI
      rw [hE, if_neg (by decide)]
      have HP := Lib.hid h
      have hx2 := slb_no hx
      clear h hr hE hc hx
      rcases hx2 with x1 | ⟨x1, x2⟩
      all_goals
        go_enter Tryd.func85, Tryd.ntmps85
        go_wp2_with fail
        go_ret
        exact ⟨rfl, HP.out, Fr.refl _ _⟩
  · have hr : rightE a c x = 2 := by unfold rightE; rw [if_pos hc]
    have hE : insE a inn c x = 2 := by unfold insE; rw [hr, if_pos (by decide)]
    unfold insI
    rw [hE, if_neg (by decide)]
    have HP := Lib.hid h
    have hc2 := cls_no hc
    clear h hr hE hc
    rcases hc2 with c1 | ⟨c1, c2⟩
    all_goals
      go_enter Tryd.func85, Tryd.ntmps85
      go_wp2_with fail
      go_ret
      exact ⟨rfl, HP.out, Fr.refl _ _⟩
set_option maxRecDepth 100000 in
theorem r14rem (h : IsR w p gh gi a hh inn) (c x : Int) : Calls Tryd.prog 82 #[.pointer (some ⟨p, 0, none⟩), .int .i64 c, .int .i64 x] w fun e w' => e = .returned (.int .i64 (remE a inn c x)) ∧ IsR w' p gh gi a hh (remI a inn c x) ∧ Fr [gi] w w' := by
  have hs0 := h.st.cell 0
  have hs1 := h.st.cell 1
  simp at hs0 hs1
  by_cases hc : 0 ≤ c ∧ c ≤ 9
  · obtain ⟨c1, c2⟩ := cls_yes hc
    by_cases hx : 0 ≤ x ∧ x < (a : Int)
    · obtain ⟨x, rfl⟩ : ∃ y : Nat, x = y := ⟨x.toNat, by omega⟩
      have hxa : x < a := by omega
      have hr : rightE a c x = 0 := by unfold rightE; rw [if_neg (fun k => k hc), if_neg (fun k => k hx)]
      have x1 : decide ((x : Int) < 0) = false := by simp
      have x2 : decide ((a : Int) ≤ x) = false := by simp; omega
      have x2' : decide (a ≤ x) = false := by simp; omega
      have hg2 : (0 : Int) ≤ x := by omega
      have hg3 : (x : Int) < a := by omega
      have hI := h.I.cellF x hxa
      have hz := h.I.frozen x
      by_cases hn : inn x = c
      · have hE : remE a inn c x = 0 := by unfold remE; rw [if_neg (fun k => k hr), Int.toNat_natCast, if_neg (fun k => k hn)]
        unfold remI
        rw [hE, if_pos rfl, Int.toNat_natCast]
        have b1 : (inn x != c) = false := by simpa using hn
        have HP := Lib.hid (h.setI x (-1) (by omega))
        have HF := Lib.hid (Fr.setCell (Fr.refl [gi] w) (p := ⟨gi, x, none⟩) (.inl (by simp)) (.int .i64 (-1)))
        generalize inn x = ix at *
        clear h hE hr hc hx hn
        go_enter Tryd.func82, Tryd.ntmps82
        go_wp2_with fail
        go_ret
        exact ⟨rfl, HP.out, HF.out⟩
      · have hE : remE a inn c x = 7 := by unfold remE; rw [if_neg (fun k => k hr), Int.toNat_natCast, if_pos hn]
        unfold remI
        rw [hE, if_neg (by decide)]
        have b1 : (inn x != c) = true := by simpa using hn
        have HP := Lib.hid h
        generalize inn x = ix at *
        clear h hE hr hc hx hn
        go_enter Tryd.func82, Tryd.ntmps82
        go_wp2_with fail
        go_ret
        exact ⟨rfl, HP.out, Fr.refl _ _⟩
    · have hr : rightE a c x = 6 := by unfold rightE; rw [if_neg (fun k => k hc), if_pos hx]
      have hE : remE a inn c x = 6 := by unfold remE; rw [hr, if_pos (by decide)]
      unfold remI
      rw [hE, if_neg (by decide)]
      have HP := Lib.hid h
      have hx2 := slb_no hx
      clear h hr hE hc hx
      rcases hx2 with x1 | ⟨x1, x2⟩
      all_goals
        go_enter Tryd.func82, Tryd.ntmps82
        go_wp2_with fail
        go_ret
        exact ⟨rfl, HP.out, Fr.refl _ _⟩
  · have hr : rightE a c x = 2 := by unfold rightE; rw [if_pos hc]
    have hE : remE a inn c x = 2 := by unfold remE; rw [hr, if_pos (by decide)]
    unfold remI
    rw [hE, if_neg (by decide)]
    have HP := Lib.hid h
    have hc2 := cls_no hc
    clear h hr hE hc
    rcases hc2 with c1 | ⟨c1, c2⟩
    all_goals
      go_enter Tryd.func82, Tryd.ntmps82
      go_wp2_with fail
      go_ret
      exact ⟨rfl, HP.out, Fr.refl _ _⟩

theorem slabsF_set (a : Nat) (hh : Nat → Nat × Nat × Nat) (x : Nat) (v : Nat × Nat × Nat) (hx : x < a) :
    laid (slabsF a hh) (x * 5) [.int .i64 v.1, .int .i64 v.2.1, .int .u32 v.2.2, .int .i64 0, .int .i64 0] = slabsF a (up hh x v) := by
  refine slabsF_ext a _ _ (by rw [laid_size, slabsF_size]) (fun i r hi hr => ?_)
  rw [laid_get _ _ _ (by rw [slabsF_size]; simp; omega), slabsF_get a hh i r hi hr]
  by_cases e : i = x
  · subst e
    rw [if_pos (by simp; omega), up_same, Nat.add_sub_cancel_left]
    rcases (by omega : r = 0 ∨ r = 1 ∨ r = 2 ∨ r = 3 ∨ r = 4) with rfl | rfl | rfl | rfl | rfl <;> rfl
  · rw [if_neg (by simp; omega), up_ne _ _ e]
theorem IsR.setH (h : IsR w p gh gi a hh inn) (x : Nat) (v : Nat × Nat × Nat) (hx : x < a) : IsR (w.setCells gh (x * 5) [.int .i64 v.1, .int .i64 v.2.1, .int .u32 v.2.2, .int .i64 0, .int .i64 0]) p gh gi a (up hh x v) inn := by
  obtain ⟨n1, n2, n3⟩ := h.nes
  refine ⟨h.st.setCells_far n1 _ _, ?_, h.I.setCells_far (fun e => n3 e.symm) _ _, h.a1, h.a2, h.le⟩
  have := h.H.setCells [.int .i64 v.1, .int .i64 v.2.1, .int .u32 v.2.2, .int .i64 0, .int .i64 0] (x * 5)
  rw [slabsF_set a hh x v hx] at this
  exact this
def setH (a : Nat) (hh : Nat → Nat × Nat × Nat) (x c l : Int) (f : Nat) : Nat → Nat × Nat × Nat := if setE a x c l = 0 then up hh x.toNat (c.toNat, l.toNat, f) else hh
set_option maxRecDepth 100000 in
theorem r14set (h : IsR w p gh gi a hh inn) (x c l : Int) (f : Nat) : Calls Tryd.prog 84 #[.pointer (some ⟨p, 0, none⟩), .int .i64 x, .int .i64 c, .int .i64 l, .int .u32 f] w fun e w' => e = .returned (.int .i64 (setE a x c l)) ∧ IsR w' p gh gi a (setH a hh x c l f) inn ∧ Fr [gh] w w' := by
  have hs0 := h.st.cell 0
  simp at hs0
  by_cases hx : 0 ≤ x ∧ x < (a : Int)
  · by_cases hb : c < 0 ∨ 9 < c ∨ l < 0 ∨ 65535 < l
    · have hE : setE a x c l = 2 := by unfold setE; rw [if_neg (fun k => k hx), if_pos hb]
      unfold setH
      rw [hE, if_neg (by decide)]
      have x1 : decide (x < 0) = false := by simp; omega
      have x2 : decide ((a : Int) ≤ x) = false := by simp; omega
      have HP := Lib.hid h
      have hx2 : decide (c < 0) = true ∨ (decide (c < 0) = false ∧ decide (9 < c) = true) ∨ (decide (c < 0) = false ∧ decide (9 < c) = false ∧ decide (l < 0) = true) ∨ (decide (c < 0) = false ∧ decide (9 < c) = false ∧ decide (l < 0) = false ∧ decide (65535 < l) = true) := by
        simp only [decide_eq_true_eq, decide_eq_false_iff_not]
        omega
      clear h hE hx hb
      rcases hx2 with c1 | ⟨c1, c2⟩ | ⟨c1, c2, c3⟩ | ⟨c1, c2, c3, c4⟩
      all_goals
        go_enter Tryd.func84, Tryd.ntmps84
        go_wp2_with fail
        go_ret
        exact ⟨rfl, HP.out, Fr.refl _ _⟩
    · obtain ⟨x, rfl⟩ : ∃ y : Nat, x = y := ⟨x.toNat, by omega⟩
      obtain ⟨c, rfl⟩ : ∃ y : Nat, c = y := ⟨c.toNat, by omega⟩
      obtain ⟨l, rfl⟩ : ∃ y : Nat, l = y := ⟨l.toNat, by omega⟩
      have hE : setE a x c l = 0 := by unfold setE; rw [if_neg (fun k => k hx), if_neg hb]
      unfold setH
      rw [hE, if_pos rfl]
      simp only [Int.toNat_natCast]
      have hxa : x < a := by omega
      have x1 : decide ((x : Int) < 0) = false := by simp
      have x2 : decide ((a : Int) ≤ x) = false := by simp; omega
      have x2' : decide (a ≤ x) = false := by simp; omega
      have hg2 : (0 : Int) ≤ x := by omega
      have hg3 : (x : Int) < a := by omega
      have c1 : decide ((c : Int) < 0) = false := by simp
      have c2 : decide ((9 : Int) < c) = false := by simp; omega
      have c2' : decide (9 < c) = false := by simp; omega
      have c3 : decide ((l : Int) < 0) = false := by simp
      have c4 : decide ((65535 : Int) < l) = false := by simp; omega
      have c4' : decide (65535 < l) = false := by simp; omega
      have HP := Lib.hid (h.setH x (c, l, f) hxa)
      have HF := Lib.hid (Fr.setCells (Fr.refl [gh] w) (b := gh) (.inl (by simp)) [.int .i64 c, .int .i64 l, .int .u32 f, .int .i64 0, .int .i64 0] (x * 5))
      have d0 := h.H.cell (x * 5)
      have d1 := h.H.cell (x * 5 + 1)
      have d2 := h.H.cell (x * 5 + 2)
      have d3 := h.H.cell (x * 5 + 3)
      have d4 := h.H.cell (x * 5 + 4)
      rw [show x * 5 = x * 5 + 0 from rfl, slabsF_get a hh x 0 hxa (by decide)] at d0
      rw [slabsF_get a hh x 1 hxa (by decide)] at d1
      rw [slabsF_get a hh x 2 hxa (by decide)] at d2
      rw [slabsF_get a hh x 3 hxa (by decide)] at d3
      rw [slabsF_get a hh x 4 hxa (by decide)] at d4
      have z0 := h.H.frozen (x * 5)
      have z1 := h.H.frozen (x * 5 + 1)
      have z2 := h.H.frozen (x * 5 + 2)
      have z3 := h.H.frozen (x * 5 + 3)
      have z4 := h.H.frozen (x * 5 + 4)
      simp only [Nat.add_zero] at d0
      clear h hE hx hb hxa
      go_enter Tryd.func84, Tryd.ntmps84
      go_wp2_with fail
      go_ret
      exact ⟨rfl, HP.out, HF.out⟩
  · have hE : setE a x c l = 6 := by unfold setE; rw [if_pos hx]
    unfold setH
    rw [hE, if_neg (by decide)]
    have HP := Lib.hid h
    have hx2 := slb_no hx
    clear h hE hx
    rcases hx2 with x1 | ⟨x1, x2⟩
    all_goals
      go_enter Tryd.func84, Tryd.ntmps84
      go_wp2_with fail
      go_ret
      exact ⟨rfl, HP.out, Fr.refl _ _⟩
end Go.Proofs.YtcagljjbiodcoaaDoor

/- The document's lists: Get. -/
namespace Go.Proofs.YtcagljjbiodcoaaDoor
set_option linter.unusedVariables false
open Go.RowKit

def nxR (a : Nat) (inn : Nat → Int) (x : Nat) : Nat := if 0 ≤ inn x then hd1 (hiL a inn x (inn x).toNat) else 0
def pvR (inn : Nat → Int) (x : Nat) : Nat := if 0 ≤ inn x then pv (loL inn x (inn x).toNat) else 0
theorem LS.links {t : TM} {inn : Nat → Int} (h : LS t inn) {x : Nat} (hx : x < t.a) : t.hd x 3 = nxR t.a inn x ∧ t.hd x 4 = pvR inn x := by
  unfold nxR pvR
  by_cases h0 : 0 ≤ inn x
  · rw [if_pos h0, if_pos h0]
    have := h.le x hx
    have hcut := lst_cut t.a inn x (inn x).toNat hx
    rw [if_pos (by omega)] at hcut
    exact h.next (by omega) hcut
  · rw [if_neg h0, if_neg h0]
    exact h.out x hx (by omega)
/-- What a look through a list found up to i: the place is m. -/
def gN (m i v : Nat) : Nat := if m < i then v else 0
theorem gN_0 (m v : Nat) : gN m 0 v = 0 := rfl
theorem gN_ne {m i : Nat} (v : Nat) (h : i ≠ m) : gN m (i + 1) v = gN m i v := by
  unfold gN
  by_cases h1 : m < i
  · rw [if_pos h1, if_pos (by omega)]
  · rw [if_neg h1, if_neg (by omega)]
theorem gN_at (m v : Nat) : gN m m v = 0 ∧ gN m (m + 1) v = v := by
  unfold gN
  exact ⟨if_neg (by omega), if_pos (by omega)⟩

variable {w : World} {p gh gi a : Nat} {hh : Nat → Nat × Nat × Nat} {inn : Nat → Int}
def slabZ (n v : Nat) (h : Nat × Nat × Nat) : Array Value := #[.int .i64 h.1, .int .i64 h.2.1, .int .u32 h.2.2, .int .i64 n, .int .i64 v]
set_option maxRecDepth 100000 in
set_option maxHeartbeats 2000000 in
theorem r14get_no (h : IsR w p gh gi a hh inn) (x : Int) (hx : ¬ (0 ≤ x ∧ x < a)) : Calls Tryd.prog 41 #[.pointer (some ⟨p, 0, none⟩), .int .i64 x] w fun e w' => e = .returned (.tuple #[slabV 0 0 0 0 0, .int .i64 6]) ∧ Fr [] w w' := by
  have hs0 := fun o => (h.alloc o).st.cell 0
  simp at hs0
  have hx2 := slb_no hx
  unfold slabV
  clear h hx
  rcases hx2 with x1 | ⟨x1, x2⟩
  all_goals
    go_enter Tryd.func41, Tryd.ntmps41
    go_wp2_with fail
    have hn9 := Blk.new w 70 #[.int .i64 0, .int .i64 0, .int .u32 0, .int .i64 0, .int .i64 0]
    have q0 := hn9.cell 0
    have q1 := hn9.cell 1
    have q2 := hn9.cell 2
    have q3 := hn9.cell 3
    have q4 := hn9.cell 4
    simp at q0 q1 q2 q3 q4
    refine bodyPost_ret (by simp [results, Tryd.results41, go_sem, q0, q1, q2, q3, q4]; try rfl) rfl ⟨rfl, (Fr.refl [] w).alloc _⟩
set_option maxRecDepth 100000 in
set_option maxHeartbeats 4000000 in
theorem r14get_yes (h : IsR w p gh gi a hh inn) (x : Nat) (hx : x < a) : Calls Tryd.prog 41 #[.pointer (some ⟨p, 0, none⟩), .int .i64 x] w fun e w' => e = .returned (.tuple #[slabV (hh x).1 (hh x).2.1 (hh x).2.2 (nxR a inn x) (pvR inn x), .int .i64 0]) ∧ Fr [] w w' := by
  have hs0 := fun o => (h.alloc o).st.cell 0
  have hs1 := fun o o' => ((h.alloc o).alloc o').st.cell 1
  simp at hs0 hs1
  have x1 : decide ((x : Int) < 0) = false := by simp
  have x2 : decide ((a : Int) ≤ x) = false := by simp; omega
  have x2' : decide (a ≤ x) = false := by simp; omega
  have hg2 : (0 : Int) ≤ x := by omega
  have hg3 : (x : Int) < a := by omega
  have hd := fun o r (hr : r < 5) => ((h.alloc o).H.cell (x * 5 + r)).trans (slabsF_get a hh x r hx hr)
  have d0 := fun o => hd o 0 (by decide)
  have d1 := fun o => hd o 1 (by decide)
  have d2 := fun o => hd o 2 (by decide)
  have d3 := fun o => hd o 3 (by decide)
  have d4 := fun o => hd o 4 (by decide)
  simp only [Nat.add_zero, slabC, if_pos, if_neg, Nat.reduceEqDiff, reduceIte] at d0 d1 d2 d3 d4
  have hI := fun o o' => ((h.alloc o).alloc o').I.cellF x hx
  have HP := Lib.hid h
  have HA := Lib.hid (fun W hW => r14all (w := W) (p := p) (gh := gh) (gi := gi) (a := a) (hh := hh) (inn := inn) hW (inn x))
  unfold slabV
  generalize (hh x).1 = v0 at *
  generalize (hh x).2.1 = v1 at *
  generalize (hh x).2.2 = v2 at *
  have hll := lstI_len a inn (inn x)
  have ha2 := h.a2
  have HLT := Lib.hid (fun y (hy : y ∈ lstI a inn (inn x)) => lstI_lt hy)
  have hcut : (inn x < 0 ∧ lstI a inn (inn x) = [] ∧ nxR a inn x = 0 ∧ pvR inn x = 0) ∨ (∃ l1 l2, lstI a inn (inn x) = l1 ++ x :: l2 ∧ nxR a inn x = hd1 l2 ∧ pvR inn x = pv l1 ∧ x ∉ l1 ∧ x ∉ l2) := by
    have hle := h.le x hx
    unfold nxR pvR lstI
    by_cases h0 : 0 ≤ inn x
    · refine .inr ⟨loL inn x (inn x).toNat, hiL a inn x (inn x).toNat, ?_, if_pos h0, if_pos h0, fun hm => by have := (loL_lt hm).1; omega, fun hm => by have := (hiL_lt hm).1; omega⟩
      rw [if_pos ⟨h0, hle.2⟩, lst_cut a inn x (inn x).toNat hx, if_pos (by omega)]
    · refine .inl ⟨by omega, by rw [if_neg (by omega)], if_neg h0, if_neg h0⟩
  have HC := Lib.hid hcut
  clear hcut
  generalize lstI a inn (inn x) = l at *
  generalize inn x = ix at *
  generalize nxR a inn x = nx at *
  generalize pvR inn x = px at *
  clear h hd
  go_enter Tryd.func41, Tryd.ntmps41
  go_wp2_with fail
  with_reducible refine (HA.out _ ((HP.out.alloc _).alloc _)).mono ?_
  rintro e w1 ⟨v, rfl, hv, f1⟩
  obtain ⟨ad, cap, rfl, hrow⟩ := own_row hv
  have B4 := Lib.hid (((Blk.new w 70 #[.int .i64 0, .int .i64 0, .int .u32 0, .int .i64 0, .int .i64 0]).alloc (.cells #[.int .i64 v0, .int .i64 v1, .int .u32 v2, .int .i64 0, .int .i64 0] 70)).fr f1 (by simp))
  have B6 := (Blk.new (w.alloc (.cells #[.int .i64 0, .int .i64 0, .int .u32 0, .int .i64 0, .int .i64 0] 70)) 70 #[.int .i64 v0, .int .i64 v1, .int .u32 v2, .int .i64 0, .int .i64 0]).fr f1 (by simp)
  rw [World.size_alloc] at B6
  have F1 := Lib.hid ((((Fr.refl [] w).alloc (.cells #[.int .i64 0, .int .i64 0, .int .u32 0, .int .i64 0, .int .i64 0] 70)).alloc (.cells #[.int .i64 v0, .int .i64 v1, .int .u32 v2, .int .i64 0, .int .i64 0] 70)).trans f1)
  have hsz := hrow
  have HR := Lib.hid (show RowV w1 (w.heap.size + 2) ad cap l by simpa using hrow)
  have HB6 := Lib.hid B6
  generalize hk0 : w.heap.size = K0 at *
  have HK0 := Lib.hid hk0
  clear hv HA hrow hsz B6 f1 hk0 hs0 hs1 d0 d1 d2 d3 d4 hI x1 x2 x2' hg3
  have hm : ∃ m : Nat, (∀ i y, l[i]? = some y → i ≠ m → y ≠ x) ∧ ((l = [] ∧ nx = 0 ∧ px = 0) ∨ (m < l.length ∧ l[m]? = some x ∧ px = (if m = 0 then 0 else l[m - 1]?.getD 0 + 1) ∧ nx = (if m + 1 < l.length then l[m + 1]?.getD 0 + 1 else 0))) := by
    rcases HC.out with ⟨_, e1, e2, e3⟩ | ⟨l1, l2, e1, e2, e3, n1, n2⟩
    · exact ⟨0, fun i y hi => by rw [e1] at hi; simp at hi, .inl ⟨e1, e2, e3⟩⟩
    · refine ⟨l1.length, fun i y hi hne he => ?_, .inr ⟨by rw [e1]; simp, by rw [e1]; simp, ?_, ?_⟩⟩
      · subst e1 he
        rcases Nat.lt_or_ge i l1.length with h1 | h1
        · rw [List.getElem?_append_left h1] at hi
          exact n1 (List.mem_of_getElem? hi)
        · rw [List.getElem?_append_right h1, List.getElem?_cons, if_neg (by omega)] at hi
          exact n2 (List.mem_of_getElem? hi)
      · rw [e3, e1]
        rcases List.eq_nil_or_concat l1 with rfl | ⟨l', z, rfl⟩
        · rfl
        · rw [List.concat_eq_append, pv_snoc, if_neg (by simp)]
          simp
      · rw [e2, e1]
        rcases l2 with _ | ⟨z, l2⟩
        · rw [if_neg (by simp)]; rfl
        · rw [if_pos (by simp)]
          simp [hd1]
  obtain ⟨m, hne, hmx⟩ := hm
  have HNE := Lib.hid hne
  have HMX := Lib.hid hmx
  have hnz : l = [] → nx = 0 ∧ px = 0 := fun e => by
    rcases hmx with h | h
    · exact h.2
    · rw [e] at h; simp at h
  have HNZ := Lib.hid hnz
  clear HC hne hmx hnz
  generalize hln : l.length = n at *
  have HLN := Lib.hid hln
  clear hln
  go_wp2_with fail
  go_loopw [8] (fun i W => ∃ k : Nat, k ≤ n ∧ i = .int .i64 k ∧ Fr [] w W ∧ RowV W (K0 + 2) ad cap l ∧ Blk W K0 70 #[.int .i64 0, .int .i64 0, .int .u32 0, .int .i64 0, .int .i64 0] ∧ Blk W (K0 + 1) 70 (slabZ (gN m k nx) (gN m k px) (v0, v1, v2))) (fun i _ => n - (intOf i).toNat)
  case atStart => exact ⟨0, by omega, rfl, F1.out, HR.out, B4.out, HB6.out⟩
  case round =>
    clear F1 HR B4 HB6
    obtain ⟨k, hk, rfl, hF, hR, h4, h6⟩ := hrel
    have HF := Lib.hid hF
    have HR := Lib.hid hR
    have H4 := Lib.hid h4
    have H6 := Lib.hid h6
    by_cases hlt : k < n
    · have hkl : k < l.length := by have := HLN.out; omega
      obtain ⟨g, rfl, hgb, hri⟩ := HR.out (by omega)
      have cY := hri.cell k hkl
      have b1 : decide ((k : Int) < n) = true := by simp; omega
      have b1' : decide (k < n) = true := by simp; omega
      have g2 : (0 : Int) ≤ k := by omega
      have g3 : (k : Int) < n := by omega
      have w1 : IntKind.i64.wrap ((k : Int) + 1) = (k : Int) + 1 := IntWalk.i64_in _ (by omega)
      by_cases hkm : k = m
      · subst hkm
        rcases HMX.out with ⟨e0, _⟩ | ⟨_, hmx, hpx, hnx⟩
        · rw [e0] at hkl; simp at hkl
        rw [List.getElem?_eq_getElem hkl] at hmx
        rw [Option.some.inj hmx] at cY
        have e1 : ((x : Int) == x) = true := by simp
        have cY2 := fun v => (hri.fr ((Fr.refl [K0 + 1] wr).setCell (p := ⟨K0 + 1, 4, none⟩) (.inl (by simp)) v) (by simp; omega)).cell k hkl
        rw [Option.some.inj hmx] at cY2
        obtain ⟨gp0, gp1⟩ := gN_at k px
        obtain ⟨gn0, gn1⟩ := gN_at k nx
        rw [gp0, gn0] at h6
        have hset : ∀ (W : World) (n0 p0 n1 p1 : Nat), Blk W (K0 + 1) 70 (slabZ n0 p0 (v0, v1, v2)) → Blk (W.setCell ⟨K0 + 1, 4, none⟩ (.int .i64 p1)) (K0 + 1) 70 (slabZ n0 p1 (v0, v1, v2)) ∧ Blk (W.setCell ⟨K0 + 1, 3, none⟩ (.int .i64 n1)) (K0 + 1) 70 (slabZ n1 p0 (v0, v1, v2)) := fun W n0 p0 n1 p1 h => ⟨by simpa [slabZ] using h.set 4 (.int .i64 p1), by simpa [slabZ] using h.set 3 (.int .i64 n1)⟩
        have HSET := Lib.hid hset
        have z3 := h6.frozen 3
        have z4 := h6.frozen 4
        have d3 := h6.cell 3
        have d4 := h6.cell 4
        have dd3 := (hset wr 0 0 0 0 h6).1.cell 3
        simp [slabZ] at d3 d4
        have H60 := Lib.hid h6
        have HGP := Lib.hid gp1
        have HGN := Lib.hid gn1
        have hK0 : w.heap.size ≤ K0 := by have := HK0.out; omega
        have hgK : ¬ g = K0 + 1 := by omega
        have hb0 : k < a ∧ a ≤ 64 := ⟨by omega, ha2⟩
        have HE := Lib.hid (fun (W' : World) (hf : Fr [K0 + 1] wr W') => And.intro (HF.out.step hf (fun k hk => .inr (by simp at hk; omega))) (And.intro (HR.out.fr hf (fun k hk => by simp at hk; omega)) (H4.out.fr hf (by simp))))
        by_cases hk0 : 0 < k
        · have c0 : decide ((0 : Int) < k) = true := by simp; omega
          have c0' : decide (0 < k) = true := by simp; omega
          have w2 : IntKind.i64.wrap ((k : Int) - 1) = (k : Int) - 1 := IntWalk.i64_in _ (by omega)
          have g4 : (0 : Int) ≤ (k : Int) - 1 := by omega
          have g5 : (k : Int) - 1 < n := by omega
          have g6 : ((k : Int) - 1).toNat = k - 1 := by omega
          have cP := hri.cell (k - 1) (by omega)
          rw [if_neg (by omega), List.getElem?_eq_getElem (by omega), Option.getD_some] at hpx
          have hpa := HLT.out _ (List.getElem_mem (show k - 1 < l.length by omega))
          generalize l[k - 1]'(by omega) = yp at *
          have w3 : IntKind.i64.wrap ((yp : Int) + 1) = (yp : Int) + 1 := IntWalk.i64_in _ (by omega)
          by_cases hk1 : k + 1 < n
          · have c1 : decide ((k : Int) + 1 < n) = true := by simp; omega
            have c1' : decide (k + 1 < n) = true := by simp; omega
            have g7 : (0 : Int) ≤ (k : Int) + 1 := by omega
            have g8 : (k : Int) + 1 < n := by omega
            have g9 : ((k : Int) + 1).toNat = k + 1 := by omega
            have cN := fun v => (hri.fr ((Fr.refl [K0 + 1] wr).setCell (p := ⟨K0 + 1, 4, none⟩) (.inl (by simp)) v) (by simp; omega)).cell (k + 1) (by have := HLN.out; omega)
            rw [if_pos (by have := HLN.out; omega), List.getElem?_eq_getElem (by have := HLN.out; omega), Option.getD_some] at hnx
            have hna := HLT.out _ (List.getElem_mem (show k + 1 < l.length by have := HLN.out; omega))
            generalize l[k + 1]'(by have := HLN.out; omega) = yn at *
            have w4 : IntKind.i64.wrap ((yn : Int) + 1) = (yn : Int) + 1 := IntWalk.i64_in _ (by omega)
            have HPX := Lib.hid hpx
            have HNX := Lib.hid hnx
            clear hri hR hF h4 h6 hmx hpx hnx gp0 gp1 gn0 gn1 H6 hset
            go_wp2_with fail
            go_roundw
            case rel =>
              obtain ⟨x1, x2, x3⟩ := HE.out _ (((Fr.refl [K0 + 1] wr).setCell (p := ⟨K0 + 1, 4, none⟩) (.inl (by simp)) (.int .i64 ((yp : Int) + 1))).setCell (p := ⟨K0 + 1, 3, none⟩) (.inl (by simp)) (.int .i64 ((yn : Int) + 1)))
              exact ⟨k + 1, by omega, by go_num, x1, x2, x3, by rw [HGP.out, HGN.out, HPX.out, HNX.out]; exact (HSET.out _ 0 (yp + 1) (yn + 1) 0 (HSET.out _ 0 0 0 (yp + 1) H60.out).1).2⟩
            case measure => simp [intOf]; omega
          · have c1 : decide ((k : Int) + 1 < n) = false := by simp; omega
            have c1' : decide (k + 1 < n) = false := by simp; omega
            rw [if_neg (by have := HLN.out; omega)] at hnx
            have HPX := Lib.hid hpx
            have HNX := Lib.hid hnx
            clear hri hR hF h4 h6 hmx hpx hnx gp0 gp1 gn0 gn1 H6 hset
            go_wp2_with fail
            go_roundw
            case rel =>
              obtain ⟨x1, x2, x3⟩ := HE.out _ ((Fr.refl [K0 + 1] wr).setCell (p := ⟨K0 + 1, 4, none⟩) (.inl (by simp)) (.int .i64 ((yp : Int) + 1)))
              exact ⟨k + 1, by omega, by go_num, x1, x2, x3, by rw [HGP.out, HGN.out, HPX.out, HNX.out]; exact (HSET.out _ 0 0 0 (yp + 1) H60.out).1⟩
            case measure => simp [intOf]; omega
        · have c0 : decide ((0 : Int) < k) = false := by simp; omega
          have c0' : decide (0 < k) = false := by simp; omega
          rw [if_pos (by omega)] at hpx
          by_cases hk1 : k + 1 < n
          · have c1 : decide ((k : Int) + 1 < n) = true := by simp; omega
            have c1' : decide (k + 1 < n) = true := by simp; omega
            have g7 : (0 : Int) ≤ (k : Int) + 1 := by omega
            have g8 : (k : Int) + 1 < n := by omega
            have g9 : ((k : Int) + 1).toNat = k + 1 := by omega
            have cN := hri.cell (k + 1) (by have := HLN.out; omega)
            rw [if_pos (by have := HLN.out; omega), List.getElem?_eq_getElem (by have := HLN.out; omega), Option.getD_some] at hnx
            have hna := HLT.out _ (List.getElem_mem (show k + 1 < l.length by have := HLN.out; omega))
            generalize l[k + 1]'(by have := HLN.out; omega) = yn at *
            have w4 : IntKind.i64.wrap ((yn : Int) + 1) = (yn : Int) + 1 := IntWalk.i64_in _ (by omega)
            have HPX := Lib.hid hpx
            have HNX := Lib.hid hnx
            clear hri hR hF h4 h6 hmx hpx hnx gp0 gp1 gn0 gn1 H6 hset
            go_wp2_with fail
            go_roundw
            case rel =>
              obtain ⟨x1, x2, x3⟩ := HE.out _ ((Fr.refl [K0 + 1] wr).setCell (p := ⟨K0 + 1, 3, none⟩) (.inl (by simp)) (.int .i64 ((yn : Int) + 1)))
              exact ⟨k + 1, by omega, by go_num, x1, x2, x3, by rw [HGP.out, HGN.out, HPX.out, HNX.out]; exact (HSET.out _ 0 0 (yn + 1) 0 H60.out).2⟩
            case measure => simp [intOf]; omega
          · have c1 : decide ((k : Int) + 1 < n) = false := by simp; omega
            have c1' : decide (k + 1 < n) = false := by simp; omega
            rw [if_neg (by have := HLN.out; omega)] at hnx
            have HPX := Lib.hid hpx
            have HNX := Lib.hid hnx
            clear hri hR hF h4 h6 hmx hpx hnx gp0 gp1 gn0 gn1 H6 hset
            go_wp2_with fail
            go_roundw
            case rel =>
              obtain ⟨x1, x2, x3⟩ := HE.out _ (Fr.refl [K0 + 1] wr)
              exact ⟨k + 1, by omega, by go_num, x1, x2, x3, by rw [HGP.out, HGN.out, HPX.out, HNX.out]; exact H60.out⟩
            case measure => simp [intOf]; omega
      · have hyx := HNE.out k l[k] (List.getElem?_eq_getElem hkl) hkm
        have e1 : (((l[k] : Nat) : Int) == x) = false := by simp; omega
        have HG1 := Lib.hid (gN_ne nx hkm)
        have HG2 := Lib.hid (gN_ne px hkm)
        generalize l[k] = y at *
        clear hyx hri hR hF h4 h6 hkm
        go_wp2_with fail
        go_roundw
        case rel => exact ⟨k + 1, by omega, by go_num, HF.out, HR.out, H4.out, by rw [HG1.out, HG2.out]; exact H6.out⟩
        case measure => simp [intOf]; omega
    · obtain rfl : k = n := by omega
      have b1 : decide ((k : Int) < k) = false := by simp
      have b1' : decide (k < k) = false := by simp
      have hgv : gN m k nx = nx ∧ gN m k px = px := by
        unfold gN
        rcases HMX.out with ⟨e1, e2, e3⟩ | ⟨e1, _⟩
        · subst e2 e3; simp
        · have := HLN.out
          exact ⟨if_pos (by omega), if_pos (by omega)⟩
      rw [hgv.1, hgv.2] at h6
      have hz4 : K0 ≠ K0 + 1 := by omega
      have d0 := h6.cell 0
      have d1 := h6.cell 1
      have d2 := h6.cell 2
      have d3 := h6.cell 3
      have d4 := h6.cell 4
      simp [slabZ] at d0 d1 d2 d3 d4
      have q0 := h4.cell 0
      have q1 := h4.cell 1
      have q2 := h4.cell 2
      have q3 := h4.cell 3
      have q4 := h4.cell 4
      simp at q0 q1 q2 q3 q4
      have z0 := h4.frozen 0
      have z1 := h4.frozen 1
      have z2 := h4.frozen 2
      have z3 := h4.frozen 3
      have z4 := h4.frozen 4
      clear hgv h6 h4 hF hR H6
      go_wp2_with fail
      refine gen5 (fun w9 => bodyPost _ _ _ _ _ w9) H4.out rfl HF.out (.inr (by have := HK0.out; omega)) ?_
      intro w9 hn9 hf9
      have q0 := hn9.cell 0
      have q1 := hn9.cell 1
      have q2 := hn9.cell 2
      have q3 := hn9.cell 3
      have q4 := hn9.cell 4
      simp at q0 q1 q2 q3 q4
      refine bodyPost_ret (by simp [results, Tryd.results41, go_sem, q0, q1, q2, q3, q4]; try rfl) rfl ⟨rfl, hf9⟩
end Go.Proofs.YtcagljjbiodcoaaDoor

/- Equality of slabs' heads. -/
namespace Go.Proofs.YtcagljjbiodcoaaDoor
set_option linter.unusedVariables false
open Go.RowKit
set_option maxRecDepth 100000 in
theorem eq_slab (c l f n p : Int) (w : World) : (Op.equalIn 10000 70 (.agg #[.int .i64 c, .int .i64 l, .int .u32 f, .int .i64 n, .int .i64 p]) (.agg #[.int .i64 c, .int .i64 l, .int .u32 f, .int .i64 n, .int .i64 p])).run Tryd.prog w = .ok true w := by
  rw [show (10000 : Nat) = 9999 + 1 from rfl, run_equalIn_struct w 9999 70 _ _ (by kernel_rfl) (by kernel_rfl)]
  have hF : (Tryd.prog.fieldsOf 70).toList = [⟨"Class", 3, 0, false, "", "", 0⟩, ⟨"Live", 3, 1, false, "", "", 8⟩, ⟨"Free", 40, 2, false, "", "", 16⟩, ⟨"Next", 3, 3, false, "", "", 24⟩, ⟨"Prev", 3, 4, false, "", "", 32⟩] := by kernel_rfl
  rw [hF]
  clear hF
  have hi : ∀ (t : TypeId) (k : IntKind) (a : Int) (w : World), Tryd.prog.underlying t = some (.int k) → (Op.equalIn 9999 t (.int k a) (.int k a)).run Tryd.prog w = .ok true w := fun t k a w h => by
    have := run_equalIn_int (P := Tryd.prog) w 9998 t k k a a h
    rw [this]; simp
  have e : (true && (true && (true && (true && (true && true))))) = true := rfl
  rw [← e]
  refine eqFields_cons _ _ _ _ _ (.int .i64 c) (.int .i64 c) _ _ (of_decide_eq_true (by kernel_rfl)) (part_int _ _ _ rfl) (part_int _ _ _ rfl) (fun w => hi _ _ _ w Tryd.underlying3) _ ?_
  refine eqFields_cons _ _ _ _ _ (.int .i64 l) (.int .i64 l) _ _ (of_decide_eq_true (by kernel_rfl)) (part_int _ _ _ rfl) (part_int _ _ _ rfl) (fun w => hi _ _ _ w Tryd.underlying3) _ ?_
  refine eqFields_cons _ _ _ _ _ (.int .u32 f) (.int .u32 f) _ _ (of_decide_eq_true (by kernel_rfl)) (part_uint32 _ _ _ rfl) (part_uint32 _ _ _ rfl) (fun w => hi _ _ _ w Tryd.underlying40) _ ?_
  refine eqFields_cons _ _ _ _ _ (.int .i64 n) (.int .i64 n) _ _ (of_decide_eq_true (by kernel_rfl)) (part_int _ _ _ rfl) (part_int _ _ _ rfl) (fun w => hi _ _ _ w Tryd.underlying3) _ ?_
  refine eqFields_cons _ _ _ _ _ (.int .i64 p) (.int .i64 p) _ _ (of_decide_eq_true (by kernel_rfl)) (part_int _ _ _ rfl) (part_int _ _ _ rfl) (fun w => hi _ _ _ w Tryd.underlying3) _ ?_
  rfl
end Go.Proofs.YtcagljjbiodcoaaDoor
