/- Walks: the document's answer for layer 11 (columbariumref11), and ref09.Same. -/
import Derived.Test.YtgoogihfggndpaaGreatDoorGB
import Derived.Test.YtgoogihfggndpaaGreatDoorGA
namespace Go.Proofs.YtgoogihfggndpaaGreatDoor
set_option linter.unusedVariables false
set_option linter.unusedSimpArgs false
open Go.RowKit

/-- The document's watch: its struct in block p, the kind of each byte in block b. -/
structure IsX (w : World) (p b : Nat) (ks : List Nat) (lk ft : Int) : Prop where
  st : Blk w p 106 #[.slice (some ⟨b, 0, none⟩) ks.length ks.length, .int .i64 lk, .int .i64 ft]
  row : Blk w b 5 (bytes ks)
  len : ks.length ≤ 1048576
  le : ∀ k ∈ ks, k ≤ 8

theorem IsX.ne {w : World} {p b : Nat} {ks : List Nat} {lk ft : Int} (h : IsX w p b ks lk ft) : p ≠ b := h.st.ne_ h.row (by decide)
theorem IsX.setRow {w : World} {p b : Nat} {ks : List Nat} {lk ft : Int} (h : IsX w p b ks lk ft) (i k : Nat) (hk : k ≤ 8) : IsX (w.setCell ⟨b, i, none⟩ (.int .u8 (k : Int))) p b (ks.set i k) lk ft := by
  refine ⟨?_, ?_, by rw [List.length_set]; exact h.len, fun x hx => (List.mem_or_eq_of_mem_set hx).elim (h.le x) (fun e => e ▸ hk)⟩
  · rw [List.length_set]; exact h.st.far (p := ⟨b, i, none⟩) h.ne _
  · rw [← bytes_set]; exact h.row.set i _
theorem IsX.fr {w w' : World} {p b : Nat} {ks : List Nat} {lk ft : Int} {S : List Nat} (h : IsX w p b ks lk ft) (hf : Fr S w w') (hp : p ∉ S) (hb : b ∉ S) : IsX w' p b ks lk ft :=
  ⟨h.st.fr hf hp, h.row.fr hf hb, h.len, h.le⟩
theorem IsX.setLk {w : World} {p b : Nat} {ks : List Nat} {lk ft : Int} (h : IsX w p b ks lk ft) (v : Int) : IsX (w.setCell ⟨p, 1, none⟩ (.int .i64 v)) p b ks v ft :=
  ⟨h.st.set 1 _, h.row.far (p := ⟨p, 1, none⟩) h.ne.symm _, h.len, h.le⟩
theorem IsX.setFt {w : World} {p b : Nat} {ks : List Nat} {lk ft : Int} (h : IsX w p b ks lk ft) (v : Int) : IsX (w.setCell ⟨p, 2, none⟩ (.int .i64 v)) p b ks lk v :=
  ⟨h.st.set 2 _, h.row.far (p := ⟨p, 2, none⟩) h.ne.symm _, h.len, h.le⟩
theorem IsX.drewN {w : World} {p b : Nat} {ks : List Nat} {lk ft : Int} (h : IsX w p b ks lk ft) (n : Nat) : IsX (w.drewN n) p b ks lk ft := ⟨h.st, h.row, h.len, h.le⟩
theorem at_le8 {ks : List Nat} (h : ∀ k ∈ ks, k ≤ 8) (i : Nat) : ks[i]?.getD 0 ≤ 8 := by
  by_cases hi : i < ks.length
  · rw [List.getElem?_eq_getElem hi]; exact h _ (List.getElem_mem _)
  · rw [List.getElem?_eq_none (by omega)]; simp

set_option maxHeartbeats 400000 in
theorem xmay (w : World) (n : Int) :
    Calls Tryz.prog 121 #[.int .i64 n] w fun e w' => e = .returned (.bool (mayB n)) ∧ w = w' := by
  by_cases h1 : 4 ≤ n
  · by_cases h2 : n ≤ 1048576
    · by_cases h3 : n % 4 = 0
      · have e3 : (n % 4 == 0) = true := by simpa using h3
        have e4 := Lib.hid h3
        clear h3
        go_enter Tryz.func121, Tryz.ntmps121
        go_wp2
        go_ret
        exact ⟨ret_true ⟨h1, h2, e4.out⟩, rfl⟩
      · have e3 : (n % 4 == 0) = false := by simpa using h3
        go_enter Tryz.func121, Tryz.ntmps121
        go_wp2
        go_ret
        exact ⟨ret_false (fun hh => h3 hh.2.2), rfl⟩
    · go_enter Tryz.func121, Tryz.ntmps121
      go_wp2
      go_ret
      exact ⟨ret_false (fun hh => by omega), rfl⟩
  · go_enter Tryz.func121, Tryz.ntmps121
    go_wp2
    go_ret
    exact ⟨ret_false (fun hh => by omega), rfl⟩

set_option maxHeartbeats 400000 in
theorem xnew_yes (w : World) (n : Nat) (h : mayB n = true) :
    Calls Tryz.prog 51 #[.int .i64 n] w fun e w' => ∃ p b, e = .returned (.pointer (some ⟨p, 0, none⟩)) ∧ IsX w' p b (List.replicate n 0) 0 0 ∧ w.heap.size ≤ p ∧ w.heap.size ≤ b ∧ Fr [] w w' := by
  have hm := xmay w n
  rw [h] at hm
  have hn : n ≤ 1048576 := by unfold mayB at h; simp at h; omega
  clear h
  have hmk := run_make_bytes (P := Tryz.prog) 24 5 Tryz.underlying24 info_u8 .i64 .i64 n (by omega)
  go_enter Tryz.func51, Tryz.ntmps51
  go_wp2_with (go_at_call 121; refine hm.mono ?_; rintro e w' ⟨rfl, rfl⟩)
  go_ret
  refine ⟨w.heap.size + 1, w.heap.size, rfl, ⟨?_, (Blk.new w _ _).alloc _, by simpa using hn, fun k hk => by rw [List.eq_of_mem_replicate hk]; omega⟩, by omega, by omega, ((Fr.refl [] w).alloc _).alloc _⟩
  rw [List.length_replicate]
  have := Blk.new (w.alloc (.cells (bytes (List.replicate n 0)) 5)) 106 #[.slice (some ⟨w.heap.size, 0, none⟩) n n, .int .i64 0, .int .i64 0]
  rwa [World.size_alloc] at this

set_option maxHeartbeats 400000 in
theorem xfits (w : World) (p b n : Nat) (x y : Int) (hn : n ≤ 1048576) (h : w.cell? ⟨p, 0, none⟩ = some (.slice (some ⟨b, 0, none⟩) n n)) :
    Calls Tryz.prog 118 #[.pointer (some ⟨p, 0, none⟩), .int .i64 x, .int .i64 y] w fun e w' => e = .returned (.bool (fitsB n x y)) ∧ w = w' := by
  go_enter Tryz.func118, Tryz.ntmps118
  go_wp2
  all_goals (go_ret; unfold fitsB; exact ⟨by first | exact ret_dec (by omega) | exact ret_true (by omega) | exact ret_false (by omega), rfl⟩)

set_option maxHeartbeats 1000000 in
theorem xmark_ok (w : World) (p b : Nat) (K : List Nat) (lk ft : Int) (i m k : Nat) (h : IsX w p b K lk ft) (hj : i + m ≤ K.length) (hk : k ≤ 8) (hi4 : i % 4 = 0) (hm4 : m % 4 = 0) :
    Calls Tryz.prog 48 #[.pointer (some ⟨p, 0, none⟩), .int .i64 i, .int .i64 m, .int .i64 k] w fun e w' => e = .returned (.int .i64 0) ∧ IsX w' p b (setR K i (i + m) k) lk ft ∧ Fr [b] w w' := by
  have hf := xfits w p b K.length i m h.len (h.st.cell 0)
  rw [show fitsB K.length i m = true by unfold fitsB; simp; omega] at hf
  have hl := h.len
  have e1 : ((i : Int) % 4 != 0) = false := by simp; omega
  have e2 : ((m : Int) % 4 != 0) = false := by simp; omega
  clear hi4 hm4
  go_enter Tryz.func48, Tryz.ntmps48
  go_wp2_with (go_at_call 118; refine hf.mono ?_; rintro e w' ⟨rfl, rfl⟩)
  go_loopw [9] (fun v wr => ∃ t : Nat, t ≤ m ∧ v = .int .i64 t ∧ IsX wr p b (setR K i (i + t) k) lk ft ∧ Fr [b] w wr) (fun v _ => m - (intOf v).toNat)
  case atStart => exact ⟨0, Nat.zero_le _, rfl, by rw [Nat.add_zero, setR_same]; exact h, Fr.refl _ _⟩
  case round =>
    obtain ⟨t, ht, rfl, hw, hfr⟩ := hrel
    have hc0 := hw.st.cell 0
    rw [setR_length] at hc0
    have hf1 := hw.row.frozen (i + t)
    have hc1 := hw.row.cell (i + t)
    by_cases hlt : t < m
    · rw [bytes_get _ _ (by rw [setR_length]; omega)] at hc1
      have hi1 : (i : Int) + t < K.length := by omega
      have hi3 : (0 : Int) ≤ (i : Int) + t := by omega
      have hi4 : ((i : Int) + t).toNat = i + t := by omega
      go_wp2
      go_roundw
      case rel => exact ⟨t + 1, by omega, by go_num, by have := hw.setRow (i + t) k hk; rw [setR_set _ _ _ _ (by omega)] at this; exact this, hfr.setCell (.inl (by simp)) _⟩
      case measure => simp [intOf]; omega
    · go_wp2
      go_ret
      have : t = m := by omega
      subst this
      exact ⟨rfl, hw, hfr⟩

end Go.Proofs.YtgoogihfggndpaaGreatDoor
