/- Package arena: Len, part, View, Read, Image, Of; bytes.Clone. -/
import Derived.Test.YtcagljjbiodcoaaDoorArnP
import Derived.Test.YtcagljjbiodcoaaDoorApp
namespace Go.Proofs.YtcagljjbiodcoaaDoor
set_option linter.unusedVariables false
open Go.RowKit

/-- What bytes.Clone answers: a slice of its own. -/
def CloneP (w : World) (l : List Nat) (nil : Bool) (e : Ending) (w' : World) : Prop :=
  ∃ v, e = .returned v ∧ OwnB w' w.heap.size v l ∧ (nil = true → v = .slice none 0 0) ∧ (nil = false → v ≠ .slice none 0 0) ∧ Fr [] w w'
theorem clone_any (w : World) (a : Option Addr) (c : Nat) (l : List Nat) (h : Byt w a l) :
    Calls Tryd.prog 110 #[.slice a l.length c] w (CloneP w l a.isNone) := by
  have e1 := fun (w : World) (a : Option Addr) (n : Nat) => Lib.run_eql_slice_nil (P := Tryd.prog) w 63 5 a n c 0 0 Tryd.underlying63
  have hlen := h.len
  rcases a with _ | ad
  · have hl : l = [] := by
      rcases l with _ | ⟨x, l⟩
      · rfl
      · obtain ⟨g, o, e, _⟩ := h.at_ 0 (by simp)
        cases e
    subst hl
    have HP := Lib.hid (show CloneP w [] (none : Option Addr).isNone (.returned (.slice none 0 0)) w from ⟨_, rfl, OwnB.nil _ _, fun _ => rfl, fun h => by simp at h, Fr.refl _ _⟩)
    generalize CloneP w [] (none : Option Addr).isNone = P at *
    clear h
    go_enter Tryd.func110, Tryd.ntmps110
    go_wp2_with fail
    exact HP.out
  · have HP := Lib.hid (show ∀ v w', OwnB w' w.heap.size v l → v ≠ .slice none 0 0 → Fr [] w w' → CloneP w l (some ad : Option Addr).isNone (.returned v) w' from fun v w' h1 h2 h3 => ⟨v, rfl, h1, fun h => by simp at h, fun _ => h2, h3⟩)
    generalize CloneP w l (some ad : Option Addr).isNone = P at *
    have HB := Lib.hid h
    have hO : OwnB (w.alloc (.cells #[] 5)) w.heap.size (.slice (some ⟨w.heap.size, 0, none⟩) 0 0) [] := OwnB.made (Nat.le_refl _) (Blk.new w _ _) (by simp)
    have hby := h.fr (S := []) ((Fr.refl [] w).alloc (.cells #[] 5)) (by simp)
    generalize hn : l.length = n at *
    have HN := Lib.hid hn
    clear h hn
    have e2 := fun w n => e1 w (some ad) n
    simp only [Option.isNone] at e2
    clear e1
    go_enter Tryd.func110, Tryd.ntmps110
    go_wp2_with (at_builtin; refine wpList_app rfl _ _ rfl rfl w.heap.size _ [] rfl hO _ _ _ l HN.out rfl hby (by rw [HN.out]; simpa using hlen) (by simp) ?_; intro v1 W1 hO1 hgr1 hob1)
    rw [List.nil_append] at hO1
    refine HP.out _ _ hO1 ?_ (hO.fr hgr1 ((Fr.refl [] w).alloc _) (Nat.le_refl _))
    obtain ⟨h1, ⟨h2, h3⟩ | ⟨g, cap, cur, h2, _⟩⟩ := hO1
    · rw [h2] at hob1
      rcases hob1 with h | h <;> cases h
    · rw [h2]
      intro h; cases h

theorem OwnB.slice {w : World} {base : Nat} {v : Value} {l : List Nat} (h : OwnB w base v l) (hv : v ≠ .slice none 0 0) : ∃ g cap, v = .slice (some ⟨g, 0, none⟩) l.length cap ∧ base ≤ g ∧ RowB w g cap l := by
  obtain ⟨h1, ⟨h2, h3⟩ | ⟨g, cap, cur, rfl, hg, hh, hc, hm, hs, ht⟩⟩ := h
  · exact absurd h2 hv
  · refine ⟨g, cap, rfl, hg, cur, hh, by simpa using hs, by simpa using hc, fun i hi => ?_⟩
    have h3 : (cur.toList.take (l.length * 1))[i]? = (cellsB l)[i]? := by rw [ht]
    rw [List.getElem?_take_of_lt (by omega), Array.getElem?_toList] at h3
    rw [h3, cellsB, List.getElem?_map, List.getElem?_eq_getElem hi]
    rfl

theorem alen_any (w : World) (p g cap : Nat) (l : List Nat) (h : IsA w p g cap l) : Calls Tryd.prog 122 #[.pointer (some ⟨p, 0, none⟩)] w fun e w' => e = .returned (.int .i64 l.length) ∧ w' = w := by
  have hn := h.none
  have hc := h.st.cell 0
  simp at hc
  generalize l.length = n at *
  clear h
  go_enter Tryd.func122, Tryd.ntmps122
  go_wp2_with fail
  with_reducible refine hn.mono ?_
  rintro e w' ⟨rfl, rfl⟩
  go_wp2_with fail
  go_ret
  exact ⟨rfl, rfl⟩

/-- Why m bytes from x on are none of n bytes. -/
def partE (n : Nat) (x m : Int) : Nat := if x < 0 ∨ m < 0 ∨ (n : Int) < x ∨ (n : Int) - x < m then 6 else 0
theorem part_no (w : World) (p g cap : Nat) (l : List Nat) (h : IsA w p g cap l) (x m : Int) (hE : partE l.length x m ≠ 0) :
    Calls Tryd.prog 127 #[.pointer (some ⟨p, 0, none⟩), .int .i64 x, .int .i64 m] w fun e w' => e = .returned (.tuple #[.slice none 0 0, .int .i64 6]) ∧ w' = w := by
  have hn := h.none
  have hc := h.st.cell 0
  have hlen := h.len
  simp at hc
  unfold partE at hE
  generalize l.length = n at *
  clear h
  have hE2 : x < 0 ∨ m < 0 ∨ (n : Int) < x ∨ (n : Int) - x < m := by
    by_cases hh : x < 0 ∨ m < 0 ∨ (n : Int) < x ∨ (n : Int) - x < m
    · exact hh
    · rw [if_neg hh] at hE; exact absurd rfl hE
  clear hE
  have fin : ∀ (b1 : decide (x < 0) = true ∨ decide (x < 0) = false ∧ (decide (m < 0) = true ∨ decide (m < 0) = false ∧ (decide ((n : Int) < x) = true ∨ decide ((n : Int) < x) = false ∧ decide ((n : Int) - x < m) = true ∧ x ≤ n ∧ 0 ≤ x))),
      Calls Tryd.prog 127 #[.pointer (some ⟨p, 0, none⟩), .int .i64 x, .int .i64 m] w fun e w' => e = .returned (.tuple #[.slice none 0 0, .int .i64 6]) ∧ w' = w := by
    clear hE2
    rintro (b1 | ⟨b1, b2 | ⟨b2, b3 | ⟨b3, b4, b5, b6⟩⟩⟩)
    all_goals
      go_enter Tryd.func127, Tryd.ntmps127
      go_wp2_with fail
      with_reducible refine hn.mono ?_
      rintro e w' ⟨rfl, rfl⟩
      go_wp2_with fail
      go_ret2
      exact ⟨rfl, rfl⟩
  refine fin ?_
  simp only [decide_eq_true_eq, decide_eq_false_iff_not]
  omega
def partO (x m : Nat) : Nat := if m = 0 then 0 else x
theorem part_yes (w : World) (p g cap : Nat) (l : List Nat) (h : IsA w p g cap l) (x m : Nat) (hE : x + m ≤ l.length) :
    Calls Tryd.prog 127 #[.pointer (some ⟨p, 0, none⟩), .int .i64 x, .int .i64 m] w fun e w' => e = .returned (.tuple #[.slice (some ⟨g, partO x m, none⟩) m m, .int .i64 0]) ∧ w' = w := by
  have hn := h.none
  have hc := h.st.cell 0
  have hlen := h.len
  have hcap := h.row.le
  simp at hc
  unfold partO
  generalize l.length = n at *
  clear h
  have b1 : decide ((x : Int) < 0) = false := by simp
  have b2 : decide ((m : Int) < 0) = false := by simp
  have b3 : decide ((n : Int) < x) = false := by simp; omega
  have b3' : decide (n < x) = false := by simp; omega
  have b4 : decide ((n : Int) - x < m) = false := by simp; omega
  go_enter Tryd.func127, Tryd.ntmps127
  go_wp2_with fail
  with_reducible refine hn.mono ?_
  rintro e w' ⟨rfl, rfl⟩
  go_wp2_with fail
  all_goals
    go_ret2
    exact ⟨rfl, rfl⟩

/-- Bytes laid over bytes, from a place on. -/
def spl (l : List Nat) (o : Nat) (m : List Nat) : List Nat := l.take o ++ m ++ l.drop (o + m.length)
theorem spl_len (l : List Nat) (o : Nat) (m : List Nat) (h : o + m.length ≤ l.length) : (spl l o m).length = l.length := by simp [spl]; omega
theorem spl_get (l : List Nat) (o : Nat) (m : List Nat) (h : o + m.length ≤ l.length) (i : Nat) : (spl l o m)[i]?.getD 0 = if o ≤ i ∧ i < o + m.length then m[i - o]?.getD 0 else l[i]?.getD 0 := by
  unfold spl
  by_cases h1 : i < o
  · rw [if_neg (by omega), List.getElem?_append_left (by simp; omega), List.getElem?_append_left (by simp; omega), List.getElem?_take_of_lt h1]
  · by_cases h2 : i < o + m.length
    · rw [if_pos (by omega), List.getElem?_append_left (by simp; omega), List.getElem?_append_right (by simp; omega)]
      simp only [List.length_take]
      rw [Nat.min_eq_left (by omega)]
    · rw [if_neg (by omega), List.getElem?_append_right (by simp; omega), List.getElem?_drop]
      congr 2
      simp only [List.length_append, List.length_take]
      omega
theorem spl_byte (l : List Nat) (o : Nat) (m : List Nat) (hl : ∀ b ∈ l, b < 256) (hm : ∀ b ∈ m, b < 256) : ∀ b ∈ spl l o m, b < 256 := by
  intro b hb
  unfold spl at hb
  rcases List.mem_append.1 hb with hb | hb
  · rcases List.mem_append.1 hb with hb | hb
    · exact hl b (List.mem_of_mem_take hb)
    · exact hm b hb
  · exact hl b (List.mem_of_mem_drop hb)
theorem RowB.setCells {w : World} {g cap : Nat} {l : List Nat} (h : RowB w g cap l) (o : Nat) (m : List Nat) (ho : o + m.length ≤ l.length) : RowB (w.setCells g o (cellsB m)) g cap (spl l o m) := by
  obtain ⟨cur, hb, hs, hl, hc⟩ := h
  refine ⟨_, hb.setCells (cellsB m) o, by rw [laid_size, hs], by rw [spl_len _ _ _ ho]; exact hl, fun i hi => ?_⟩
  rw [spl_len _ _ _ ho] at hi
  have hcl : (cellsB m).length = m.length := by simp [cellsB]
  rw [laid_get _ _ _ (by rw [hcl]; omega), hcl, spl_get _ _ _ ho]
  by_cases h1 : o ≤ i ∧ i < o + m.length
  · rw [if_pos h1, if_pos h1, cellsB, List.getElem?_map, List.getElem?_eq_getElem (by omega)]; rfl
  · rw [if_neg h1, if_neg h1]; exact hc i hi
theorem IsA.setCells {w : World} {p g cap : Nat} {l : List Nat} (h : IsA w p g cap l) (o : Nat) (m : List Nat) (ho : o + m.length ≤ l.length) (hm : ∀ b ∈ m, b < 256) : IsA (w.setCells g o (cellsB m)) p g cap (spl l o m) := by
  refine ⟨?_, h.row.setCells o m ho, spl_byte l o m h.byte hm, by rw [spl_len _ _ _ ho]; exact h.len⟩
  rw [spl_len _ _ _ ho]
  exact h.st.setCells_far h.ne _ _

theorem IsA.part {w : World} {p g cap : Nat} {l : List Nat} (h : IsA w p g cap l) (x m : Nat) (hE : x + m ≤ l.length) : Byt w (some ⟨g, partO x m, Option.none⟩) ((l.drop x).take m) := by
  refine ⟨fun i hi => ?_, fun b hb => h.byte b (List.mem_of_mem_drop (List.mem_of_mem_take hb)), by have := h.len; simp; omega⟩
  simp at hi
  refine ⟨g, partO x m, rfl, ?_, h.row.lt⟩
  have : partO x m = x := by unfold partO; rw [if_neg (by omega)]
  rw [this, h.row.cell _ (by omega), List.getElem?_take_of_lt (by omega), List.getElem?_drop]
def FreshB (w : World) (l : List Nat) (v : Value) (w' : World) : Prop := ∃ g cap, v = .slice (some ⟨g, 0, none⟩) l.length cap ∧ w.heap.size ≤ g ∧ RowB w' g cap l ∧ Fr [] w w'
theorem clone_some (w : World) (ad : Addr) (c : Nat) (l : List Nat) (h : Byt w (some ad) l) :
    Calls Tryd.prog 110 #[.slice (some ad) l.length c] w fun e w' => ∃ v, e = .returned v ∧ FreshB w l v w' :=
  (clone_any w (some ad) c l h).mono fun e w' ⟨v, he, hO, _, hv, hf⟩ => by
    obtain ⟨g, cap, e1, hg, hr⟩ := hO.slice (hv rfl)
    exact ⟨v, he, g, cap, e1, hg, hr, hf⟩
theorem aimage_any (w : World) (p g cap : Nat) (l : List Nat) (h : IsA w p g cap l) :
    Calls Tryd.prog 81 #[.pointer (some ⟨p, 0, none⟩)] w fun e w' => ∃ v, e = .returned v ∧ FreshB w l v w' := by
  have hn := h.none
  have hc := h.st.cell 0
  have hk := clone_some w ⟨g, 0, none⟩ cap l h.byt
  simp at hc
  generalize l.length = n at *
  clear h
  go_enter Tryd.func81, Tryd.ntmps81
  go_wp2_with fail
  with_reducible refine hn.mono ?_
  rintro e w' ⟨rfl, rfl⟩
  go_wp2_with fail
  with_reducible refine hk.mono ?_
  rintro e w1 ⟨v, rfl, f1⟩
  go_wp2_with fail
  go_ret
  exact ⟨v, rfl, f1⟩
end Go.Proofs.YtcagljjbiodcoaaDoor
