/- Walks: package watch, its plain methods. -/
import Derived.Test.YtcagljjbiodcoaaDoorProg
import Derived.Test.YtcagljjbiodcoaaDoorBytes
import Derived.WalkKit
import Derived.WalkMore
import Derived.WalkSpells
import Derived.WalkLawsBesides
import Derived.Lib.SliceRun
import Derived.Deep.QuietTactic
import Derived.BigQuiet
namespace Go.Proofs.YtcagljjbiodcoaaDoor
set_option linter.unusedVariables false
open Go.RowKit

/-- A watch that somebody made: its struct in block p, the kinds of its grains in block b. -/
structure IsW (w : World) (p b : Nat) (ks : List Nat) (lk ft : Int) : Prop where
  st : Blk w p 143 #[.slice (some ⟨b, 0, none⟩) ks.length ks.length, .int .i64 lk, .int .i64 ft]
  row : Blk w b 5 (bytes ks)
  len : ks.length ≤ 262144
  le : ∀ k ∈ ks, k ≤ 8

theorem IsW.setRow {w : World} {p b : Nat} {ks : List Nat} {lk ft : Int} (h : IsW w p b ks lk ft) (i k : Nat) (hk : k ≤ 8) : IsW (w.setCell ⟨b, i, none⟩ (.int .u8 (k : Int))) p b (ks.set i k) lk ft := by
  refine ⟨?_, ?_, by rw [List.length_set]; exact h.len, fun x hx => (List.mem_or_eq_of_mem_set hx).elim (h.le x) (fun e => e ▸ hk)⟩
  · rw [List.length_set]; exact h.st.far (p := ⟨b, i, none⟩) (h.st.ne_ h.row (by decide)) _
  · rw [← bytes_set]; exact h.row.set i _
theorem IsW.fr {w w' : World} {p b : Nat} {ks : List Nat} {lk ft : Int} {S : List Nat} (h : IsW w p b ks lk ft) (hf : Fr S w w') (hp : p ∉ S) (hb : b ∉ S) : IsW w' p b ks lk ft :=
  ⟨h.st.fr hf hp, h.row.fr hf hb, h.len, h.le⟩
theorem IsW.ne {w : World} {p b : Nat} {ks : List Nat} {lk ft : Int} (h : IsW w p b ks lk ft) : p ≠ b := h.st.ne_ h.row (by decide)

set_option maxHeartbeats 400000 in
theorem none_nil (w : World) :
    Calls Tryd.prog 97 #[.pointer none] w fun e w' => e = .returned (.bool true) ∧ w = w' := by
  go_enter Tryd.func97, Tryd.ntmps97
  go_wp2
  go_ret
  exact ⟨rfl, rfl⟩

set_option maxHeartbeats 400000 in
theorem none_zero (w : World) (p : Nat) (h : w.cell? ⟨p, 0, none⟩ = some (.slice none 0 0)) :
    Calls Tryd.prog 97 #[.pointer (some ⟨p, 0, none⟩)] w fun e w' => e = .returned (.bool true) ∧ w = w' := by
  have e1 := fun (w : World) => Lib.run_eql_slice_nil (P := Tryd.prog) w 63 5 none 0 0 0 0 Tryd.underlying63
  go_enter Tryd.func97, Tryd.ntmps97
  go_wp2
  go_ret
  exact ⟨rfl, rfl⟩

set_option maxHeartbeats 400000 in
theorem none_some (w : World) (p : Nat) (b n c : Nat) (h : w.cell? ⟨p, 0, none⟩ = some (.slice (some ⟨b, 0, none⟩) n c)) :
    Calls Tryd.prog 97 #[.pointer (some ⟨p, 0, none⟩)] w fun e w' => e = .returned (.bool false) ∧ w = w' := by
  have e1 := fun (w : World) => Lib.run_eql_slice_nil (P := Tryd.prog) w 63 5 (some ⟨b, 0, none⟩) n c 0 0 Tryd.underlying63
  go_enter Tryd.func97, Tryd.ntmps97
  go_wp2
  go_ret
  exact ⟨rfl, rfl⟩

set_option maxHeartbeats 400000 in
theorem size_some (w : World) (p : Nat) (b n c : Nat) (hn : n ≤ 262144) (h : w.cell? ⟨p, 0, none⟩ = some (.slice (some ⟨b, 0, none⟩) n c)) :
    Calls Tryd.prog 119 #[.pointer (some ⟨p, 0, none⟩)] w fun e w' => e = .returned (.int .i64 (4 * n)) ∧ w = w' := by
  go_enter Tryd.func119, Tryd.ntmps119
  go_wp2
  go_ret
  exact ⟨rfl, rfl⟩

/-- Do n bytes from at on lie in sz bytes? -/
def fitsB (sz : Nat) (at_ n : Int) : Bool := decide (0 ≤ at_ ∧ 0 ≤ n ∧ at_ ≤ sz ∧ n ≤ sz - at_)

set_option maxHeartbeats 400000 in
theorem fits_some (w : World) (p : Nat) (b n c : Nat) (x y : Int) (hn : n ≤ 262144) (h : w.cell? ⟨p, 0, none⟩ = some (.slice (some ⟨b, 0, none⟩) n c)) :
    Calls Tryd.prog 98 #[.pointer (some ⟨p, 0, none⟩), .int .i64 x, .int .i64 y] w fun e w' => e = .returned (.bool (fitsB (4 * n) x y)) ∧ w = w' := by
  have hs := size_some w p b n c hn h
  go_enter Tryd.func98, Tryd.ntmps98
  go_wp2_with (go_at_call 119; refine hs.mono ?_; rintro e w' ⟨rfl, rfl⟩)
  all_goals (go_ret; unfold fitsB; exact ⟨by first | exact ret_dec (by omega) | exact ret_true (by omega) | exact ret_false (by omega), rfl⟩)

/-- May a watch have so many bytes? -/
def mayB (n : Int) : Bool := decide (4 ≤ n ∧ n ≤ 1048576 ∧ n % 4 = 0)

set_option maxHeartbeats 400000 in
theorem new_no (w : World) (n : Int) (h : n < 4 ∨ 1048576 < n ∨ n % 4 ≠ 0) :
    Calls Tryd.prog 93 #[.int .i64 n] w fun e w' => e = .returned (.pointer none) ∧ w = w' := by
  by_cases h1 : n < 4
  · go_enter Tryd.func93, Tryd.ntmps93
    go_wp2
    go_ret
    exact ⟨rfl, rfl⟩
  by_cases h2 : 1048576 < n
  · go_enter Tryd.func93, Tryd.ntmps93
    go_wp2
    go_ret
    exact ⟨rfl, rfl⟩
  have h3 : ((n % 4 : Int) != 0) = true := by simp; omega
  go_enter Tryd.func93, Tryd.ntmps93
  go_wp2
  go_ret
  exact ⟨rfl, rfl⟩

theorem zero_u8 (w : World) : (zeroValue 5).run Tryd.prog w = .ok (.int .u8 0) w := by kernel_rfl

def newW (w : World) (m : Nat) : World := (w.alloc (.cells (bytes (List.replicate m 0)) 5)).alloc (.cells #[.slice (some ⟨w.heap.size, 0, none⟩) m m, .int .i64 0, .int .i64 0] 143)
theorem newW_blk (w : World) (m : Nat) : Blk (newW w m) w.heap.size 5 (bytes (List.replicate m 0)) := (Blk.new w _ _).alloc _
theorem newW_st (w : World) (m : Nat) : Blk (newW w m) (w.heap.size + 1) 143 #[.slice (some ⟨w.heap.size, 0, none⟩) m m, .int .i64 0, .int .i64 0] := by
  have := Blk.new (w.alloc (.cells (bytes (List.replicate m 0)) 5)) 143 #[.slice (some ⟨w.heap.size, 0, none⟩) m m, .int .i64 0, .int .i64 0]
  rw [World.size_alloc] at this
  exact this

set_option maxHeartbeats 400000 in
theorem new_yes (w : World) (m : Nat) (h1 : 1 ≤ m) (h2 : m ≤ 262144) :
    Calls Tryd.prog 93 #[.int .i64 (4 * m)] w fun e w' => ∃ p b, e = .returned (.pointer (some ⟨p, 0, none⟩)) ∧ IsW w' p b (List.replicate m 0) 0 0 ∧ w.heap.size ≤ p ∧ w.heap.size ≤ b ∧ Fr [] w w' := by
  have h3 : ((4 * (m : Int)) % 4 != 0) = false := by simp
  have h4 : (4 * (m : Int)) / 4 = m := by omega
  have hmk := run_make_bytes (P := Tryd.prog) 63 5 Tryd.underlying63 info_u8 .i64 .i64 m (by omega)
  have hcl : ∀ ty, (Builtin.clear_ #[63] ty #[.slice (some ⟨w.heap.size, 0, none⟩) m m]).run Tryd.prog (newW w m) = .ok (.tuple #[]) ((newW w m).setCells w.heap.size 0 (List.replicate m (.int .u8 0))) := fun ty =>
    Lib.run_clear_slice (newW w m) 63 5 ty (.int .u8 0) Tryd.underlying63 zero_u8 rfl rfl w.heap.size 0 m m (by omega)
      (fun j hj => by rw [(newW_blk w m).cell, bytes_get _ _ (by simp; omega)]; rfl) (fun j _ => (newW_blk w m).frozen _)
  unfold newW at hcl
  go_enter Tryd.func93, Tryd.ntmps93
  go_wp2
  go_ret
  refine ⟨w.heap.size + 1, w.heap.size, rfl, ⟨?_, ?_, by simp; omega, fun k hk => by rw [List.eq_of_mem_replicate hk]; omega⟩, by omega, by omega, ?_⟩
  · rw [List.length_replicate]
    exact (newW_st w m).setCells_far (by omega) _ _
  · have := (newW_blk w m).setCells (List.replicate m (.int .u8 0)) 0
    have e : (List.replicate m (Value.int .u8 0)).toArray = bytes (List.replicate m 0) := by simp [bytes]
    rw [laid_all _ _ (by simp [bytes_size]), e] at this
    exact this
  · exact (((Fr.refl [] w).alloc _).alloc _).setCells (.inr (Nat.le_refl _)) _ _

set_option maxHeartbeats 400000 in
theorem faults_some (w : World) (p b : Nat) (ks : List Nat) (lk ft : Int) (h : IsW w p b ks lk ft) :
    Calls Tryd.prog 96 #[.pointer (some ⟨p, 0, none⟩)] w fun e w' => e = .returned (.int .i64 ft) ∧ w = w' := by
  have hn := none_some w p b _ _ (h.st.cell 0)
  have hc := h.st.cell 2
  clear h
  go_enter Tryd.func96, Tryd.ntmps96
  go_wp2_with (go_at_call 97; refine hn.mono ?_; rintro e w' ⟨rfl, rfl⟩)
  go_ret
  exact ⟨rfl, rfl⟩


/-- What Mark answers. -/
def markE (sz : Nat) (x y k : Int) : Int := if k < 0 ∨ 8 < k then 2 else if fitsB sz x y = false then 6 else if x % 4 ≠ 0 ∨ y % 4 ≠ 0 then 9 else 0
/-- Positions from i to j are k. -/
def setR (ks : List Nat) (i j k : Nat) : List Nat := (List.range ks.length).map fun x => if i ≤ x ∧ x < j then k else ks[x]?.getD 0
theorem setR_length (ks : List Nat) (i j k : Nat) : (setR ks i j k).length = ks.length := by simp [setR]
theorem setR_get (ks : List Nat) (i j k x : Nat) (hx : x < ks.length) : (setR ks i j k)[x]? = some (if i ≤ x ∧ x < j then k else ks[x]?.getD 0) := by simp [setR, hx]
theorem setR_same (ks : List Nat) (i k : Nat) : setR ks i i k = ks := by
  apply List.ext_getElem?
  intro x
  by_cases hx : x < ks.length
  · rw [setR_get _ _ _ _ _ hx, if_neg (by omega)]; simp [hx]
  · rw [List.getElem?_eq_none (by rw [setR_length]; omega), List.getElem?_eq_none (by omega)]
theorem setR_set (ks : List Nat) (i j k : Nat) (hij : i ≤ j) : (setR ks i j k).set j k = setR ks i (j + 1) k := by
  apply List.ext_getElem?
  intro x
  by_cases hx : x < ks.length
  · rw [List.getElem?_set, setR_get _ _ _ _ _ hx, setR_get _ _ _ _ _ hx, setR_length]
    by_cases h : j = x
    · subst h; rw [if_pos rfl, if_pos hx, if_pos (by omega)]
    · rw [if_neg h]
      by_cases h2 : i ≤ x ∧ x < j
      · rw [if_pos h2, if_pos (by omega)]
      · rw [if_neg h2, if_neg (by omega)]
  · rw [List.getElem?_eq_none (by rw [List.length_set, setR_length]; omega), List.getElem?_eq_none (by rw [setR_length]; omega)]

set_option maxHeartbeats 400000 in
theorem mark_bad (w : World) (p b : Nat) (ks : List Nat) (lk ft x y k : Int) (h : IsW w p b ks lk ft) (hb : markE (4 * ks.length) x y k ≠ 0) :
    Calls Tryd.prog 57 #[.pointer (some ⟨p, 0, none⟩), .int .i64 x, .int .i64 y, .int .i64 k] w fun e w' => e = .returned (.int .i64 (markE (4 * ks.length) x y k)) ∧ w = w' := by
  have hn := none_some w p b _ _ (h.st.cell 0)
  have hf := fits_some w p b ks.length ks.length x y h.len (h.st.cell 0)
  have hc := h.st.cell 0
  have hl := h.len
  unfold markE at hb ⊢
  generalize ks.length = n at *
  clear h
  by_cases h1 : k < 0 ∨ 8 < k
  · rw [if_pos h1]
    clear hb hf
    rcases h1 with h1 | h1
    · go_enter Tryd.func57, Tryd.ntmps57
      go_wp2_with (go_at_call 97; refine hn.mono ?_; rintro e w' ⟨rfl, rfl⟩)
      go_ret
      exact ⟨rfl, rfl⟩
    · go_enter Tryd.func57, Tryd.ntmps57
      go_wp2_with (go_at_call 97; refine hn.mono ?_; rintro e w' ⟨rfl, rfl⟩)
      go_ret
      exact ⟨rfl, rfl⟩
  rw [if_neg h1] at hb ⊢
  have h2 : 0 ≤ k := by omega
  have h3 : k ≤ 8 := by omega
  clear h1
  cases hB : fitsB (4 * n) x y
  · rw [if_pos rfl]
    rw [hB] at hf
    clear hb hB
    go_enter Tryd.func57, Tryd.ntmps57
    go_wp2_with (first | (go_at_call 97; refine hn.mono ?_; rintro e w' ⟨rfl, rfl⟩) | (go_at_call 98; refine hf.mono ?_; rintro e w' ⟨rfl, rfl⟩))
    go_ret
    exact ⟨rfl, rfl⟩
  · rw [hB] at hf hb
    simp only [Bool.true_eq_false, if_false] at hb ⊢
    have hB' : 0 ≤ x ∧ 0 ≤ y ∧ x ≤ 4 * n ∧ y ≤ 4 * n - x := by unfold fitsB at hB; simpa using hB
    obtain ⟨g1, g2, g3, g4⟩ := hB'
    clear hB
    by_cases h5 : x % 4 ≠ 0 ∨ y % 4 ≠ 0
    · rw [if_pos h5]
      clear hb
      by_cases h6 : x % 4 = 0
      · have e1 : (x % 4 != 0) = false := by simp; omega
        have e2 : (y % 4 != 0) = true := by simp; omega
        clear h5 h6
        go_enter Tryd.func57, Tryd.ntmps57
        go_wp2_with (first | (go_at_call 97; refine hn.mono ?_; rintro e w' ⟨rfl, rfl⟩) | (go_at_call 98; refine hf.mono ?_; rintro e w' ⟨rfl, rfl⟩))
        go_ret
        exact ⟨rfl, rfl⟩
      · have e1 : (x % 4 != 0) = true := by simp; omega
        clear h5 h6
        go_enter Tryd.func57, Tryd.ntmps57
        go_wp2_with (first | (go_at_call 97; refine hn.mono ?_; rintro e w' ⟨rfl, rfl⟩) | (go_at_call 98; refine hf.mono ?_; rintro e w' ⟨rfl, rfl⟩))
        go_ret
        exact ⟨rfl, rfl⟩
    · rw [if_neg h5] at hb
      exact absurd rfl hb

/-- A slice value that begins at place i of a row of n cells. -/
def sliceAt (b i len n : Nat) : Value := .slice (some ⟨b, if n = i then 0 else i, none⟩) len (n - i)

set_option maxHeartbeats 1000000 in
theorem mark_ok (w : World) (p b : Nat) (ks : List Nat) (lk ft x y : Int) (i j k : Nat) (h : IsW w p b ks lk ft) (hij : i ≤ j) (hj : j ≤ ks.length) (hk : k ≤ 8) (hx : x = 4 * i) (hy : y = 4 * j - 4 * i) :
    Calls Tryd.prog 57 #[.pointer (some ⟨p, 0, none⟩), .int .i64 x, .int .i64 y, .int .i64 k] w fun e w' => e = .returned (.int .i64 0) ∧ IsW w' p b (setR ks i j k) lk ft ∧ Fr [b] w w' := by
  have hn := none_some w p b _ _ (h.st.cell 0)
  have hf := fits_some w p b ks.length ks.length x y h.len (h.st.cell 0)
  rw [show fitsB (4 * ks.length) x y = true by unfold fitsB; simp; omega] at hf
  have hc := h.st.cell 0
  have hl := h.len
  have e1 : (x % 4 != 0) = false := by simp; omega
  have e2 : (y % 4 != 0) = false := by simp; omega
  have e3 : x / 4 = i := by omega
  have e4 : (x + y) / 4 = j := by omega
  have e5 : 0 ≤ x := by omega
  have e6 : 0 ≤ y := by omega
  have e7 : x + y ≤ 1048576 := by omega
  have hL : ∀ n : Nat, n = ks.length → w.cell? ⟨p, 0, none⟩ = some (.slice (some ⟨b, 0, none⟩) n n) := fun n hn => by rw [hn]; exact hc
  clear hx hy hc
  by_cases hi : ks.length = i
  · have hij' : i = j := by omega
    subst hij'
    have hc := hL i hi.symm
    have hji : i - i = 0 := by omega
    have hj' : i ≤ 262144 := by omega
    rw [show setR ks i i k = ks from setR_same _ _ _]
    have H := Lib.hid h
    clear hL hi h hl hij hj
    go_enter Tryd.func57, Tryd.ntmps57
    go_wp2_with (first | (go_at_call 97; refine hn.mono ?_; rintro e w' ⟨rfl, rfl⟩) | (go_at_call 98; refine hf.mono ?_; rintro e w' ⟨rfl, rfl⟩))
    go_loop [10, 49] (fun _ v => v = .int .i64 0) (fun _ _ => 0)
    case atStart => rfl
    case round =>
      obtain rfl := hrel
      go_wp2
      go_ret
      exact ⟨rfl, H.out, Fr.refl _ _⟩
  · have hc := hL _ rfl
    clear hL
    go_enter Tryd.func57, Tryd.ntmps57
    go_wp2_with (first | (go_at_call 97; refine hn.mono ?_; rintro e w' ⟨rfl, rfl⟩) | (go_at_call 98; refine hf.mono ?_; rintro e w' ⟨rfl, rfl⟩))
    go_loopw [10, 49] (fun _ v wr => ∃ t : Nat, t ≤ j - i ∧ v = .int .i64 t ∧ IsW wr p b (setR ks i (i + t) k) lk ft ∧ Fr [b] w wr) (fun _ v _ => (j - i) - (intOf v).toNat)
    case atStart => exact ⟨0, Nat.zero_le _, rfl, by rw [Nat.add_zero, setR_same]; exact h, Fr.refl _ _⟩
    case round =>
      obtain ⟨t, ht, rfl, hw, hfr⟩ := hrel
      have hf1 := hw.row.frozen (i + t)
      have hc1 := hw.row.cell (i + t)
      by_cases hlt : t < j - i
      · rw [bytes_get _ _ (by rw [setR_length]; omega)] at hc1
        go_wp2
        go_roundw
        case rel => exact ⟨t + 1, by omega, by go_num, by have := hw.setRow (i + t) k hk; rw [setR_set _ _ _ _ (by omega)] at this; exact this, hfr.setCell (.inl (by simp)) _⟩
        case measure => simp [intOf]; omega
      · go_wp2
        go_ret
        have : t = j - i := by omega
        subst this
        rw [show i + (j - i) = j by omega] at hw
        exact ⟨rfl, hw, hfr⟩

/-- Are all in a range of one kind? -/
def oneK (ks : List Nat) (i j : Nat) : Bool := (List.range (j - i)).all fun x => ks[i + x]?.getD 0 == ks[i]?.getD 0
theorem oneK_yes (ks : List Nat) (i j : Nat) (h : ∀ x, x < j - i → ks[i + x]?.getD 0 = ks[i]?.getD 0) : oneK ks i j = true := by
  simp only [oneK, List.all_eq_true, List.mem_range, beq_iff_eq]; exact h
theorem oneK_no (ks : List Nat) (i j x : Nat) (hx : x < j - i) (h : ks[i + x]?.getD 0 ≠ ks[i]?.getD 0) : oneK ks i j = false := by
  rw [← Bool.not_eq_true]
  simp only [oneK, List.all_eq_true, List.mem_range, beq_iff_eq]
  exact fun hh => h (hh x hx)
def kindY (ks : List Nat) (i j : Nat) : Nat := if oneK ks i j then ks[i]?.getD 0 else 0
/-- What Kind answers, at bytes. -/
def kindL (ks : List Nat) (x y : Int) : Nat :=
  if y < 1 ∨ fitsB (4 * ks.length) x y = false then 0 else kindY ks (x / 4).toNat ((x + y + 3) / 4).toNat

set_option maxHeartbeats 400000 in
theorem kind_no (w : World) (p b : Nat) (ks : List Nat) (lk ft x y : Int) (h : IsW w p b ks lk ft) (hb : y < 1 ∨ fitsB (4 * ks.length) x y = false) :
    Calls Tryd.prog 121 #[.pointer (some ⟨p, 0, none⟩), .int .i64 x, .int .i64 y] w fun e w' => e = .returned (.int .i64 0) ∧ w = w' := by
  have hn := none_some w p b _ _ (h.st.cell 0)
  have hf := fits_some w p b ks.length ks.length x y h.len (h.st.cell 0)
  clear h
  by_cases h1 : y < 1
  · clear hb
    go_enter Tryd.func121, Tryd.ntmps121
    go_wp2
    go_step3
    go_wp2_with (go_at_call 97; refine hn.mono ?_; rintro e w' ⟨rfl, rfl⟩)
    rw [Exit.noGoto_ret]
    go_ret
    exact ⟨rfl, rfl⟩
  · rw [(hb.resolve_left h1)] at hf
    clear hb
    go_enter Tryd.func121, Tryd.ntmps121
    go_wp2
    go_step3
    go_wp2_with (first | (go_at_call 97; refine hn.mono ?_; rintro e w' ⟨rfl, rfl⟩) | (go_at_call 98; refine hf.mono ?_; rintro e w' ⟨rfl, rfl⟩))
    rw [Exit.noGoto_ret]
    go_ret
    exact ⟨rfl, rfl⟩

set_option maxHeartbeats 1000000 in
theorem kind_yes (w : World) (p b : Nat) (ks : List Nat) (lk ft x y : Int) (h : IsW w p b ks lk ft) (h1 : 1 ≤ y) (hB : fitsB (4 * ks.length) x y = true) :
    Calls Tryd.prog 121 #[.pointer (some ⟨p, 0, none⟩), .int .i64 x, .int .i64 y] w fun e w' => e = .returned (.int .i64 (kindY ks (x / 4).toNat ((x + y + 3) / 4).toNat)) ∧ w = w' := by
  have hn := none_some w p b _ _ (h.st.cell 0)
  have hf := fits_some w p b ks.length ks.length x y h.len (h.st.cell 0)
  rw [hB] at hf
  have hB' : 0 ≤ x ∧ 0 ≤ y ∧ x ≤ 4 * ks.length ∧ y ≤ 4 * ks.length - x := by unfold fitsB at hB; simpa using hB
  obtain ⟨g1, g2, g3, g4⟩ := hB'
  clear hB
  obtain ⟨i, hi⟩ : ∃ i : Nat, x / 4 = i := ⟨(x / 4).toNat, by omega⟩
  obtain ⟨j, hj⟩ : ∃ j : Nat, (x + y + 3) / 4 = j := ⟨((x + y + 3) / 4).toNat, by omega⟩
  have hij : i < j := by omega
  have hjl : j ≤ ks.length := by omega
  rw [hi, hj]
  simp only [Int.toNat_natCast]
  have hl := h.len
  have hc := h.st.cell 0
  have hne : ¬ ks.length = i := by omega
  have h63 : x + y + 4 - 1 = x + y + 3 := by omega
  have hg := h.row.cell i
  rw [bytes_get _ _ (by omega)] at hg
  generalize hk0 : ks[i]?.getD 0 = k0 at hg
  have K0 := Lib.hid hk0
  have H := Lib.hid h
  have hw8 : (k0 : Int) ≤ 8 := by
    rw [← hk0, List.getElem?_eq_getElem (by omega)]
    have := h.le ks[i] (List.getElem_mem _)
    simp; omega
  clear hk0 h
  go_enter Tryd.func121, Tryd.ntmps121
  go_wp2
  go_step3
  go_wp2_with (first | (go_at_call 97; refine hn.mono ?_; rintro e w' ⟨rfl, rfl⟩) | (go_at_call 98; refine hf.mono ?_; rintro e w' ⟨rfl, rfl⟩))
  go_step3
  go_wp2
  go_loop [8, 42] (fun u v => ∃ t : Nat, t ≤ j - i ∧ u = .int .u8 k0 ∧ v = .int .i64 t ∧ ∀ x, x < t → ks[i + x]?.getD 0 = k0) (fun _ v => (j - i) - (intOf v).toNat)
  case atStart => exact ⟨0, Nat.zero_le _, rfl, rfl, fun _ h => absurd h (by omega)⟩
  case round =>
    obtain ⟨t, ht, rfl, rfl, hall⟩ := hrel
    have HA := Lib.hid hall
    clear hall
    by_cases hlt : t < j - i
    · have hc1 := H.out.row.cell (i + t)
      rw [bytes_get _ _ (by omega)] at hc1
      generalize hk1 : ks[i + t]?.getD 0 = k1 at hc1
      have K1 := Lib.hid hk1
      clear hk1
      by_cases hkk : k1 = k0
      · subst hkk
        have e0 : ((k1 : Int) != k1) = false := by simp
        go_wp2
        go_round
        case rel => exact ⟨t + 1, by omega, rfl, by go_num, fun x hx => by
          by_cases hxt : x < t
          · exact HA.out x hxt
          · rw [show x = t by omega]; exact K1.out⟩
        case measure => simp [intOf]; omega
      · have e0 : ((k1 : Int) != k0) = true := by simp; omega
        go_wp2
        go_ret
        exact ⟨ret_int (by rw [kindY, oneK_no ks i j t hlt (by rw [K1.out, K0.out]; exact hkk)]; rfl), rfl⟩
    · go_wp2
      go_ret
      have e : oneK ks i j = true := oneK_yes ks i j (fun x hx => by rw [HA.out x (by omega)]; exact K0.out.symm)
      exact ⟨ret_int (by rw [kindY, e, K0.out]; rfl), rfl⟩
end Go.Proofs.YtcagljjbiodcoaaDoor
