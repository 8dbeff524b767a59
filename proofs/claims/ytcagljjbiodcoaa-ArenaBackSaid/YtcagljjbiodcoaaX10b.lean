/- Package columbariumref10: Read, Write, Zero, Move. -/
import Derived.Test.YtcagljjbiodcoaaX10
import Derived.Deep.RegionLaw
namespace Go.Proofs.Ytcagljjbiodcoaa
set_option linter.unusedVariables false
open Go.RowKit

theorem RowB.sub {w : World} {g cap : Nat} {l : List Nat} (h : RowB w g cap l) (hb : ∀ b ∈ l, b < 256) (hl : l.length ≤ 1048576) (x m : Nat) (hE : x + m ≤ l.length) (o : Nat) (ho : m = 0 ∨ o = x) : Byt w (some ⟨g, o, none⟩) ((l.drop x).take m) := by
  refine ⟨fun i hi => ?_, fun b hm => hb b (List.mem_of_mem_drop (List.mem_of_mem_take hm)), by simp; omega⟩
  simp at hi
  refine ⟨g, o, rfl, ?_, h.lt⟩
  have : o = x := by omega
  rw [this, h.cell _ (by omega), List.getElem?_take_of_lt (by omega), List.getElem?_drop]

theorem xread_no (w : World) (B p : Nat) (l : List Nat) (h : IsXR w B p l) (x m : Int) (hE : partE l.length x m ≠ 0) :
    Calls Try.prog 31 #[.pointer (some ⟨p, 0, none⟩), .int .i64 x, .int .i64 m] w fun e w' => e = .returned (.tuple #[.slice none 0 0, .int .i64 6]) ∧ w' = w := by
  have hf := xfits10 w B p l h x m false (by simpa using hE)
  clear h
  go_enter Try.func31, Try.ntmps31
  go_wp2_with fail
  with_reducible refine hf.mono ?_
  rintro e w' ⟨rfl, rfl⟩
  go_wp2_with fail
  go_ret2
  exact ⟨rfl, rfl⟩

theorem xread_yes (w : World) (B p : Nat) (l : List Nat) (h : IsXR w B p l) (x m : Nat) (hE : x + m ≤ l.length) :
    Calls Try.prog 31 #[.pointer (some ⟨p, 0, none⟩), .int .i64 x, .int .i64 m] w fun e w' => ∃ v, e = .returned (.tuple #[v, .int .i64 0]) ∧ FreshB w ((l.drop x).take m) v w' := by
  have hf := xfits10 w B p l h x m true (by unfold partE; rw [if_neg (by omega)]; rfl)
  obtain ⟨h1, ⟨g, cap, h2, h3, h4⟩, h5, h6, h7⟩ := h
  have hc := h3.cell 0
  simp at hc
  have hlm : ((l.drop x).take m).length = m := by simp; omega
  have hcap := h4.le
  have HP := Lib.hid (show ∀ v w', OwnB w' w.heap.size v ((l.drop x).take m) → v ≠ .slice none 0 0 → Fr [] w w' → ∃ v', Ending.returned (.tuple #[v, .int .i64 0]) = .returned (.tuple #[v', .int .i64 0]) ∧ FreshB w ((l.drop x).take m) v' w' from fun v w' hO hv hF => by
    obtain ⟨g, cap, e1, hg, hr⟩ := hO.slice hv
    exact ⟨v, rfl, g, cap, e1, hg, hr, hF⟩)
  have hsub := fun o ho => h4.sub h5 h7 x m hE o ho
  generalize (l.drop x).take m = ms at *
  have HS := Lib.hid hsub
  have HL := Lib.hid hlm
  have hO : OwnB (w.alloc (.cells #[] 5)) w.heap.size (.slice (some ⟨w.heap.size, 0, none⟩) 0 0) [] := OwnB.made (Nat.le_refl _) (Blk.new w _ _) (by simp)
  have hgl := h4.lt
  have hcA := fun o => (h3.alloc o).cell 0
  simp at hcA
  generalize l.length = n at *
  clear h3 h4 h5 h6 hsub hlm
  have hby : Byt (w.alloc (.cells #[] 5)) (if cap = x then some ⟨g, 0, none⟩ else some ⟨g, x, none⟩) ms := by
    have h1 := HS.out 0
    have h2 := HS.out x (.inr rfl)
    split
    · exact (h1 (.inl (by omega))).fr (S := []) ((Fr.refl [] w).alloc (.cells #[] 5)) (by simp)
    · exact h2.fr (S := []) ((Fr.refl [] w).alloc (.cells #[] 5)) (by simp)
  clear HS
  go_enter Try.func31, Try.ntmps31
  go_wp2_with fail
  with_reducible refine hf.mono ?_
  rintro e w' ⟨rfl, rfl⟩
  go_wp2_with (at_builtin; refine wpList_app rfl _ _ rfl rfl w'.heap.size _ [] rfl hO _ _ _ ms (HL.out.trans (Nat.add_sub_cancel_left x m).symm) rfl hby (by rw [HL.out]; simp; omega) (by simp) ?_; intro v1 W1 hO1 hgr1 hob1)
  rw [List.nil_append] at hO1
  go_wp2_with fail
  all_goals
    go_ret2
    refine HP.out _ _ hO1 ?_ (hO.fr hgr1 ((Fr.refl [] _).alloc _) (Nat.le_refl _))
    obtain ⟨h1, ⟨h2, h3⟩ | ⟨g, cap, cur, h2, _⟩⟩ := hO1
    · rw [h2] at hob1
      rcases hob1 with h | h <;> cases h
    · rw [h2]
      intro h; cases h

theorem step_app {w : World} {ops : Array Oper} {o : Oper} {a : Act} {K : Act → World → Prop} {Q : Exit → Act → World → Prop} {E : Prop} (hgd : o.guard = none) (s x : Operand)
    (ho : o.op = .call { callee := .builtin .append, args := #[s, x], argTypes := #[28, 28] }) (hty : o.type = 28)
    (base : Nat) (v : Value) (l : List Nat) (hs : a.eval s = v) (hown : OwnB w base v l) (A : Option Addr) (c n : Nat) (m : List Nat) (hn : m.length = n) (hx : a.eval x = .slice A n c) (hm : Byt w A m)
    (hl : l.length + m.length ≤ 1099511627776) (hbase : base ≤ w.heap.size)
    (h : ∀ v' w', OwnB w' base v' (l ++ m) → w.grownBy w' v.ownBlock → (v'.ownBlock = v.ownBlock ∨ v'.ownBlock = some w.heap.size) → K (a.put o.dst v') w') :
    if Region.wanted o (yielded ops a.tmps) = true then Oper.wp Try.prog o a w K Q else E := by
  have hw : Region.wanted o (yielded ops a.tmps) = true := by simp [Region.wanted, hgd]
  rw [if_pos hw]
  exact wp_app s x ho hty base v l hs hown A c n m hn hx hm hl hbase h

theorem xwrite_no (w : World) (B p : Nat) (l : List Nat) (h : IsXR w B p l) (x : Int) (m c : Nat) (a : Option Addr) (hE : partE l.length x m ≠ 0) :
    Calls Try.prog 32 #[.pointer (some ⟨p, 0, none⟩), .int .i64 x, .slice a m c] w fun e w' => e = .returned (.int .i64 6) ∧ w' = w := by
  have hf := xfits10 w B p l h x m false (by simpa using hE)
  clear h
  go_enter Try.func32, Try.ntmps32
  go_wp2_with fail
  with_reducible refine hf.mono ?_
  rintro e w' ⟨rfl, rfl⟩
  go_wp2_with fail
  go_ret
  exact ⟨rfl, rfl⟩

set_option maxHeartbeats 2000000 in
theorem xwrite_yes (w : World) (B p : Nat) (l : List Nat) (h : IsXR w B p l) (hB : B ≤ w.heap.size) (x c : Nat) (a : Option Addr) (m : List Nat) (hm : Byt w a m) (hE : x + m.length ≤ l.length) :
    Calls Try.prog 32 #[.pointer (some ⟨p, 0, none⟩), .int .i64 x, .slice a m.length c] w fun e w' => e = .returned (.int .i64 0) ∧ IsXR w' B p (spl l x m) ∧ Fr [p] w w' := by
  have hf := xfits10 w B p l h x m.length true (by unfold partE; rw [if_neg (by omega)]; rfl)
  obtain ⟨h1, ⟨g, cap, h2, h3, h4⟩, h5, h6, h7⟩ := h
  have hc := h3.cell 0
  simp at hc
  have hcA := fun o => (h3.alloc o).cell 0
  simp at hcA
  have hcap := h4.le
  have hlen := hm.len
  have HL1 := Lib.hid (show (l.take x).length = x by simp; omega)
  have HL3 := Lib.hid (show ((l.drop (x + m.length)).take (l.length - (x + m.length))).length = l.length - (x + m.length) by simp)
  have HB1 := Lib.hid (show Byt w (some ⟨g, 0, none⟩) (l.take x) by have := h4.sub h5 h7 0 x (by omega) 0 (.inr rfl); simpa using this)
  have HB3 := Lib.hid (show Byt w (if cap = ((x : Int) + m.length).toNat then some ⟨g, 0, none⟩ else some ⟨g, ((x : Int) + m.length).toNat, none⟩) ((l.drop (x + m.length)).take (l.length - (x + m.length))) by
    split
    · exact h4.sub h5 h7 (x + m.length) _ (by omega) 0 (.inl (by omega))
    · exact h4.sub h5 h7 (x + m.length) _ (by omega) _ (.inr (by omega)))
  have HBm := Lib.hid hm
  have hO : OwnB (w.alloc (.cells #[] 5)) w.heap.size (.slice (some ⟨w.heap.size, 0, none⟩) 0 0) [] := OwnB.made (Nat.le_refl _) (Blk.new w _ _) (by simp)
  have HLm := Lib.hid (show (l.take x).length + m.length + ((l.drop (x + m.length)).take (l.length - (x + m.length))).length = l.length by simp; omega)
  have HE := Lib.hid (show l.take x ++ m ++ (l.drop (x + m.length)).take (l.length - (x + m.length)) = spl l x m by
    unfold spl; rw [List.take_of_length_le (l := l.drop _) (by simp)])
  have HSL := Lib.hid (spl_len l x m hE)
  have HSB := Lib.hid (spl_byte l x m h5 hm.byte)
  generalize l.take x = l1 at *
  generalize (l.drop (x + m.length)).take (l.length - (x + m.length)) = l3 at *
  generalize spl l x m = l' at *
  generalize l.length = n at *
  have HN1 := Lib.hid (fun W B v (hO : OwnB W B v l') (hu : v = .slice none 0 0) => show False by
    rw [hu] at hO
    obtain ⟨q1, ⟨q2, q3⟩ | ⟨_, _, _, q2, _⟩⟩ := hO
    · have := HSL.out; omega
    · cases q2)
  generalize hk : m.length = k at *
  have HK := Lib.hid hk
  have H3 := Lib.hid h3
  have hal : ∀ g' o', a = some ⟨g', o', none⟩ → True := fun _ _ _ => trivial
  have h6' := h6
  clear h3 h4 h5 h6 hk hm hal
  go_enter Try.func32, Try.ntmps32
  go_wp2_with fail
  with_reducible refine hf.mono ?_
  rintro e w' ⟨rfl, rfl⟩
  have i1 : (0 : Int) ≤ (x : Int) := by omega
  have i2 : (x : Int) ≤ (cap : Int) := by omega
  have i3 : (x : Int) + k ≤ (n : Int) := by omega
  have i4 : (n : Int) ≤ (cap : Int) := by omega
  have i5 : (0 : Int) ≤ (x : Int) + k := by omega
  have i6 : x + k ≤ n := by omega
  have i7 : IntKind.i64.wrap ((x : Int) + k) = (x : Int) + k := IntWalk.i64_in _ (by omega)
  go_wp2_with fail
  have ha : Fr [] w' (w'.alloc (.cells #[] 5)).drew := ((Fr.refl [] w').alloc _).drew
  have hO0 : OwnB (w'.alloc (.cells #[] 5)).drew w'.heap.size (.slice (some ⟨w'.heap.size, 0, none⟩) 0 0) [] := hO
  have hb1 := HB1.out.fr ha (by simp)
  have q1 : ([] : List Nat).length + l1.length ≤ 1099511627776 := by rw [HL1.out]; simp; omega
  have q2 : ([] ++ l1 : List Nat).length + m.length ≤ 1099511627776 := by have h1 := HLm.out; have h2 := HK.out; simp; omega
  have q3 : ([] ++ l1 ++ m : List Nat).length + l3.length ≤ 1099511627776 := by have h1 := HLm.out; have h2 := HK.out; simp; omega
  have q4 : l3.length = n - ((x : Int) + k).toNat := HL3.out.trans (by omega)
  have HA := Lib.hid ha
  have HQ := Lib.hid (And.intro q1 (And.intro q2 q3))
  clear q1 q2 q3 ha
  have FIN := Lib.hid (fun W3 g3 cap3 (hr3 : RowB W3 g3 cap3 l') (hg3 : w'.heap.size ≤ g3) (f3 : Fr [] w' W3) =>
    show IsXR (W3.setCell ⟨p, 0, none⟩ (.slice (some ⟨g3, 0, none⟩) n cap3)) B p l' ∧ Fr [p] w' (W3.setCell ⟨p, 0, none⟩ (.slice (some ⟨g3, 0, none⟩) n cap3)) from by
      have hlt := H3.out.lt
      refine ⟨⟨h1, ⟨g3, cap3, by omega, ?_, hr3.far (p := ⟨p, 0, none⟩) (show g3 ≠ p by omega) _⟩, HSB.out, by rw [HSL.out]; exact h6', by rw [HSL.out]; exact h7⟩, (f3.mono (by simp)).setCell (.inl (by simp)) _⟩
      rw [HSL.out]
      exact (H3.out.fr f3 (by simp)).set 0 _)
  have hfzA : ∀ o, (w'.alloc o).frozen? ⟨p, 0, none⟩ = false := fun o => (H3.out.alloc o).frozen 0
  go_region_law (first | (refine step_app rfl (.tmp 14) (.tmp 20) (by rfl) (by rfl) w'.heap.size _ [] (by rfl) hO0 _ _ _ l1 HL1.out (by rfl) hb1 HQ.out.1 HA.out.size ?_; intro v1 W1 hO1 hgr1 hob1; have f1 := hO0.fr hgr1 HA.out (Nat.le_refl _); have hbm := HBm.out.fr f1 (by simp); have c1 : W1.cell? ⟨p, 0, none⟩ = some (.slice (some ⟨g, 0, none⟩) n cap) := (H3.out.fr f1 (by simp)).cell 0) | (refine step_app rfl (.tmp 21) (.tmp 22) (by rfl) (by rfl) w'.heap.size _ _ (by rfl) hO1 _ _ _ m HK.out (by rfl) hbm HQ.out.2.1 f1.size ?_; intro v2 W2 hO2 hgr2 hob2; have f2 := hO1.fr hgr2 f1 (Nat.le_refl _); have hb3 := HB3.out.fr f2 (by simp); have c2 : W2.cell? ⟨p, 0, none⟩ = some (.slice (some ⟨g, 0, none⟩) n cap) := (H3.out.fr f2 (by simp)).cell 0) | (refine step_app rfl (.tmp 23) (.tmp 32) (by rfl) (by rfl) w'.heap.size _ _ (by rfl) hO2 _ _ _ l3 q4 (by rfl) hb3 HQ.out.2.2 f2.size ?_; intro v3 W3 hO3 hgr3 hob3; have f3 := hO2.fr hgr3 f2 (Nat.le_refl _); rw [List.nil_append, HE.out] at hO3; obtain ⟨g3, cap3, hu3, hg3, hr3⟩ := hO3.slice (HN1.out _ _ _ hO3); subst hu3; rw [HSL.out]; rw [HSL.out] at hO3; have c3 : W3.cell? ⟨p, 0, none⟩ = some (.slice (some ⟨g, 0, none⟩) n cap) := (H3.out.fr f3 (by simp)).cell 0; have z3 : W3.frozen? ⟨p, 0, none⟩ = false := (H3.out.fr f3 (by simp)).frozen 0))
  all_goals (first | done | (have e3 := FIN.out W3 g3 cap3 hr3 hg3 f3; clear c1 c2 c3 z3 hO1 hO2 hO3 hgr1 hgr2 hgr3 hob1 hob2 hob3 hbm hb3 hr3; go_wp2_with fail))
  all_goals (go_ret; first | exact ⟨rfl, e3⟩ | exact ⟨rfl, HSL.out ▸ e3⟩)
end Go.Proofs.Ytcagljjbiodcoaa
