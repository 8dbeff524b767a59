/- Layer 10: acts that came in; few acts. -/
import Derived.Test.YtcagljjbiodcoaaX10
namespace Go.Proofs.Ytcagljjbiodcoaa
set_option linter.unusedVariables false
open Go.RowKit

/-- An act. -/
structure A10 where
  k : Int
  x : Int
  y : Int
  n : Int
  wd : Int
  v : Nat
  a : Option Addr
  c : Nat
  b : List Nat
def A10.cells (d : A10) : Array Value := #[.int .i64 d.k, .int .i64 d.x, .int .i64 d.y, .int .i64 d.n, .int .i64 d.wd, .int .u64 d.v, .slice d.a d.b.length d.c]
/-- A slice at a reads as the bytes l, as many as they may be. -/
structure BytL (w : World) (a : Option Addr) (l : List Nat) : Prop where
  at_ : ∀ i, i < l.length → ∃ g o, a = some ⟨g, o, none⟩ ∧ w.cell? ⟨g, o + i, none⟩ = some (.int .u8 ((l[i]?.getD 0 : Nat) : Int)) ∧ g < w.heap.size
  byte : ∀ b ∈ l, b < 256
  len : l.length ≤ 9223372036854775807
theorem BytL.byt {w : World} {a : Option Addr} {l : List Nat} (h : BytL w a l) (hl : l.length ≤ 1099511627776) : Byt w a l := ⟨h.at_, h.byte, hl⟩

/-- An act that lies from a place on. -/
structure Row10 (w : World) (b o : Nat) (d : A10) : Prop where
  c0 : w.cell? ⟨b, o, none⟩ = some (.int .i64 d.k)
  c1 : w.cell? ⟨b, o + 1, none⟩ = some (.int .i64 d.x)
  c2 : w.cell? ⟨b, o + 2, none⟩ = some (.int .i64 d.y)
  c3 : w.cell? ⟨b, o + 3, none⟩ = some (.int .i64 d.n)
  c4 : w.cell? ⟨b, o + 4, none⟩ = some (.int .i64 d.wd)
  c5 : w.cell? ⟨b, o + 5, none⟩ = some (.int .u64 d.v)
  c6 : w.cell? ⟨b, o + 6, none⟩ = some (.slice d.a d.b.length d.c)
structure Acts10 (w : World) (a : Option Addr) (l : List A10) : Prop where
  row : 0 < l.length → ∃ b off, a = some ⟨b, off, none⟩ ∧ b < w.heap.size ∧ ∀ i (h : i < l.length), Row10 w b (off + i * 7) l[i]
  each : ∀ d ∈ l, d.v < 18446744073709551616 ∧ BytL w d.a d.b

def fewS (l : List A10) (t : Nat) : Nat := ((l.take t).map fun d => min d.b.length 9999).sum
theorem fewS_step (l : List A10) (t : Nat) (h : t < l.length) : fewS l (t + 1) = fewS l t + min (l[t].b.length) 9999 := by
  unfold fewS
  rw [List.take_add_one, List.getElem?_eq_getElem h, List.map_append, List.sum_append]
  simp
theorem fewS_mono (l : List A10) : ∀ (k t : Nat), fewS l t ≤ fewS l (t + k)
  | 0, t => Nat.le_refl _
  | k + 1, t => by
    refine Nat.le_trans (fewS_mono l k t) ?_
    by_cases h : t + k < l.length
    · show _ ≤ fewS l (t + k + 1)
      rw [fewS_step l _ h]; omega
    · unfold fewS
      rw [List.take_of_length_le (by omega), List.take_of_length_le (by omega)]
      exact Nat.le_refl _
def fewB (l : List A10) : Bool := decide (l.length ≤ 60 ∧ fewS l l.length ≤ 3000)
theorem fewB_each {l : List A10} (h : fewB l = true) : l.length ≤ 60 ∧ ∀ d ∈ l, d.b.length ≤ 3000 := by
  unfold fewB at h
  rw [decide_eq_true_eq] at h
  refine ⟨h.1, fun d hd => ?_⟩
  obtain ⟨j, hj, rfl⟩ := List.mem_iff_getElem.1 hd
  have h1 := fewS_step l j hj
  have h2 := fewS_mono l (l.length - (j + 1)) (j + 1)
  rw [show j + 1 + (l.length - (j + 1)) = l.length by omega] at h2
  have := h.2
  omega
def FewP (w : World) (l : List A10) (e : Ending) (w' : World) : Prop := e = .returned (.bool (fewB l)) ∧ w' = w
theorem few_any (w : World) (a : Option Addr) (cap : Nat) (l : List A10) (hlen : l.length ≤ 9223372036854775807) (h : Acts10 w a l) :
    Calls Try.prog 16 #[.int .i64 0, .slice a l.length cap] w fun e w' => e = .returned (.bool (fewB l)) ∧ w' = w := by
  have HH := Lib.hid h
  have HM := Lib.hid (fewS_mono l)
  have HB := Lib.hid (show ∀ r, r = decide (l.length ≤ 60 ∧ fewS l l.length ≤ 3000) → r = fewB l from fun r h => h)
  generalize hn : l.length = len at *
  have HN := Lib.hid hn
  clear h hn
  have HP : Hid (∀ r : Bool, r = fewB l → FewP w l (.returned (.bool r)) w) := Lib.hid (fun r h => ⟨by rw [h], rfl⟩)
  show Calls _ _ _ _ (FewP w l)
  generalize FewP w l = P at *
  go_enter Try.func16, Try.ntmps16
  go_wp2_with fail
  go_loop [5, 6] (fun s i => ∃ t n : Nat, t ≤ len ∧ i = .int .i64 t ∧ s = .int .i64 n ∧ n ≤ 12999 ∧ Hid (fewS l t = n)) (fun _ i => len - (intOf i).toNat)
  case atStart => exact ⟨0, 0, by omega, rfl, rfl, by omega, Lib.hid rfl⟩
  case round =>
    obtain ⟨t, n, ht, rfl, rfl, hn, HJ⟩ := hrel
    by_cases hlt : t < len
    · by_cases hn3 : n ≤ 3000
      · have htl : t < l.length := by rw [HN.out]; exact hlt
        obtain ⟨b, off, rfl, hb, hrow⟩ := HH.out.row (by omega)
        have hc := (hrow t htl).c6
        have hbl := (HH.out.each _ (List.getElem_mem htl)).2.len
        have HQ := Lib.hid (fewS_step l t htl)
        generalize l[t].b.length = m at *
        generalize l[t].a = da at *
        generalize l[t].c = dc at *
        have g1 : (0 : Int) ≤ t := by omega
        have g2 : (t : Int) < len := by omega
        have g3 : (n : Int) ≤ 3000 := by omega
        clear hrow hb htl
        go_wp2_with fail
        refine ⟨⟨t + 1, n + min m 9999, by omega, by rfl, ?_, by omega, Lib.hid (by rw [HQ.out, HJ.out])⟩, by simp [intOf]; omega⟩
        congr 1
        split <;> omega
      · have g3 : decide ((n : Int) ≤ 3000) = false := by simp; omega
        have g4 : decide (n ≤ 3000) = false := by simp; omega
        have g1 : (0 : Int) ≤ t := by omega
        have g2 : (t : Int) < len := by omega
        have key : false = fewB l := HB.out _ (by
          have := HM.out (len - t) t
          rw [HJ.out, show t + (len - t) = len by omega] at this
          simp; omega)
        have HK := Lib.hid key
        clear key
        go_wp2_with fail
        all_goals exact HP.out _ HK.out
    · obtain rfl : t = len := by omega
      by_cases h60 : t ≤ 60
      · have b6 : decide ((t : Int) ≤ 60) = true := by simp; omega
        have b6' : decide (t ≤ 60) = true := by simp; omega
        have key : decide ((n : Int) ≤ 3000) = fewB l := HB.out _ (by rw [HJ.out]; exact decide_eq_decide.2 (show ((n : Int) ≤ 3000) ↔ (t ≤ 60 ∧ n ≤ 3000) by omega))
        have HK := Lib.hid key
        clear key
        go_wp2_with fail
        all_goals exact HP.out _ HK.out
      · have b6 : decide ((t : Int) ≤ 60) = false := by simp; omega
        have b6' : decide (t ≤ 60) = false := by simp; omega
        have key : false = fewB l := HB.out _ (by simp; omega)
        have HK := Lib.hid key
        clear key
        go_wp2_with fail
        all_goals exact HP.out _ HK.out
end Go.Proofs.Ytcagljjbiodcoaa
