/- The walk of WatchPlays: the program's watch and the document's go side by side. -/
import Derived.Test.YtgkpbmgbaonbhaaLaw11a
import Derived.Deep.RegionHeld3
namespace Go.Proofs.Ytgkpbmgbaonbhaa
set_option linter.unusedVariables false
open Go.RowKit

theorem IsW.drew {w : World} {p b : Nat} {ks : List Nat} {lk ft : Int} (h : IsW w p b ks lk ft) : IsW w.drew p b ks lk ft := ⟨h.st, h.row, h.len, h.le⟩
theorem IsX.drew {w : World} {p b : Nat} {ks : List Nat} {lk ft : Int} (h : IsX w p b ks lk ft) : IsX w.drew p b ks lk ft := ⟨h.st, h.row, h.len, h.le⟩
theorem IsW.drewN {w : World} {p b : Nat} {ks : List Nat} {lk ft : Int} (h : IsW w p b ks lk ft) (n : Nat) : IsW (w.drewN n) p b ks lk ft := ⟨h.st, h.row, h.len, h.le⟩
theorem IsW.alloc {w : World} {p b : Nat} {ks : List Nat} {lk ft : Int} (h : IsW w p b ks lk ft) (o : Obj) : IsW (w.alloc o) p b ks lk ft := ⟨h.st.alloc o, h.row.alloc o, h.len, h.le⟩
theorem IsX.alloc {w : World} {p b : Nat} {ks : List Nat} {lk ft : Int} (h : IsX w p b ks lk ft) (o : Obj) : IsX (w.alloc o) p b ks lk ft := ⟨h.st.alloc o, h.row.alloc o, h.len, h.le⟩

/-- A slice of acts: each is four numbers. -/
def Acts (w : World) (a : Option Addr) (len : Nat) (l : List (Int × Int × Int × Int)) : Prop :=
  l.length = len ∧ (0 < len → ∃ b off, a = some ⟨b, off, none⟩ ∧ b < w.heap.size ∧ ∀ i (h : i < l.length), w.cell? ⟨b, off + i * 4, none⟩ = some (.int .i64 (l[i]).1) ∧
    w.cell? ⟨b, off + i * 4 + 1, none⟩ = some (.int .i64 (l[i]).2.1) ∧ w.cell? ⟨b, off + i * 4 + 2, none⟩ = some (.int .i64 (l[i]).2.2.1) ∧ w.cell? ⟨b, off + i * 4 + 3, none⟩ = some (.int .i64 (l[i]).2.2.2))

/-- Both watches, as they are behind some acts. -/
structure Two (w : World) (p b q c : Nat) (m : Nat) (ks : List Nat) (lk ft : Int) : Prop where
  one : IsW w p b ks lk ft
  two : IsX w q c (exp4 ks) lk ft
  len : ks.length = m
  bc : b ≠ c

theorem Two.fr {w w' : World} {p b q c m : Nat} {ks : List Nat} {lk ft : Int} {S : List Nat} (h : Two w p b q c m ks lk ft) (hf : Fr S w w') (hp : p ∉ S) (hb : b ∉ S) (hq : q ∉ S) (hc : c ∉ S) : Two w' p b q c m ks lk ft :=
  ⟨h.one.fr hf hp hb, h.two.fr hf hq hc, h.len, h.bc⟩
theorem Two.pq {w : World} {p b q c m : Nat} {ks : List Nat} {lk ft : Int} (h : Two w p b q c m ks lk ft) : p ≠ q ∧ p ≠ c ∧ b ≠ q ∧ p ≠ b ∧ q ≠ c :=
  ⟨h.one.st.ne_ h.two.st (by decide), h.one.st.ne_ h.two.row (by decide), h.one.row.ne_ h.two.st (by decide), h.one.ne, h.two.ne⟩

set_option maxHeartbeats 2000000 in
theorem plays_a (w : World) (n : Int) (a : Option Addr) (len cap : Nat) (hlen : len ≤ 9223372036854775807) (h : (1024 < n ∧ n ≤ 1048576) ∨ 60 < len) :
    Calls Try.prog 3 #[.int .i64 n, .slice a len cap] w fun e w' => e = .returned (.bool true) ∧ Below w.heap.size w w' := by
  have hw := watches_any w
  by_cases h1 : 1024 < n
  · by_cases h2 : n ≤ 1048576
    · clear h
      go_enter Try.func3, Try.ntmps3
      go_wp2_with (go_at_call 8; refine hw.mono ?_; rintro e w' ⟨rfl, hB⟩)
      go_ret
      exact ⟨rfl, hB⟩
    · have h3 : 60 < len := by omega
      clear h
      go_enter Try.func3, Try.ntmps3
      go_wp2_with (go_at_call 8; refine hw.mono ?_; rintro e w' ⟨rfl, hB⟩)
      go_ret
      exact ⟨rfl, hB⟩
  · have h3 : 60 < len := by omega
    clear h
    go_enter Try.func3, Try.ntmps3
    go_wp2_with (go_at_call 8; refine hw.mono ?_; rintro e w' ⟨rfl, hB⟩)
    go_ret
    exact ⟨rfl, hB⟩

set_option maxHeartbeats 2000000 in
theorem plays_b (w : World) (n : Int) (a : Option Addr) (len cap : Nat) (hlen : len ≤ 60) (h : mayB n = false) :
    Calls Try.prog 3 #[.int .i64 n, .slice a len cap] w fun e w' => e = .returned (.bool true) ∧ Below w.heap.size w w' := by
  have hw := watches_any w
  have hn : n < 4 ∨ 1048576 < n ∨ n % 4 ≠ 0 := by unfold mayB at h; simp at h; omega
  by_cases hA : 1024 < n ∧ n ≤ 1048576
  · exact plays_a w n a len cap (by omega) (.inl hA)
  have h1 := new_no w n hn
  have h2 := xnew_no w n h
  clear h hn
  by_cases h3 : 1024 < n
  · have h4 : 1048576 < n := by omega
    clear hA
    go_enter Try.func3, Try.ntmps3
    go_wp2_with (first | (go_at_call 8; refine hw.mono ?_; rintro e w' ⟨rfl, hB⟩) | (go_at_call 9; refine h1.mono ?_; rintro e w' ⟨rfl, rfl⟩) | (go_at_call 10; refine h2.mono ?_; rintro e w' ⟨rfl, rfl⟩))
    go_ret
    exact ⟨rfl, hB⟩
  · clear hA
    go_enter Try.func3, Try.ntmps3
    go_wp2_with (first | (go_at_call 8; refine hw.mono ?_; rintro e w' ⟨rfl, hB⟩) | (go_at_call 9; refine h1.mono ?_; rintro e w' ⟨rfl, rfl⟩) | (go_at_call 10; refine h2.mono ?_; rintro e w' ⟨rfl, rfl⟩))
    go_ret
    exact ⟨rfl, hB⟩
def ftN (b : Bool) : Int := if b then 0 else 1
theorem ftN_b (b : Bool) : 0 ≤ ftN b ∧ ftN b ≤ 1 := by cases b <;> simp [ftN]
theorem look2 (w : World) (p b : Nat) (ks : List Nat) (lk ft x n k : Int) (h : IsW w p b ks lk ft) (h0 : 0 ≤ lk) (h1 : lk ≤ 1099511627776) (h2 : 0 ≤ ft) (h3 : ft ≤ 1099511627776) :
    Calls Try.prog 11 #[.pointer (some ⟨p, 0, none⟩), .int .i64 x, .int .i64 n, .int .i64 k] w fun e w' =>
      e = .returned (.bool (mayL ks x n k)) ∧ IsW w' p b ks (lk + 1) (ft + ftN (mayL ks x n k)) ∧ Fr [p] w w' := look_some w p b ks lk ft x n k h h0 h1 h2 h3
theorem xlook2 (w : World) (p b : Nat) (ks : List Nat) (lk ft x n k : Int) (h : IsX w p b (exp4 ks) lk ft) (h0 : 0 ≤ lk) (h1 : lk ≤ 1099511627776) (h2 : 0 ≤ ft) (h3 : ft ≤ 1099511627776) :
    Calls Try.prog 12 #[.pointer (some ⟨p, 0, none⟩), .int .i64 x, .int .i64 n, .int .i64 k] w fun e w' =>
      e = .returned (.bool (mayL ks x n k)) ∧ IsX w' p b (exp4 ks) (lk + 1) (ft + ftN (mayL ks x n k)) ∧ Fr [p] w w' := by
  rw [mayL_exp]
  exact xlook w p b (exp4 ks) lk ft x n k h h0 h1 h2 h3

end Go.Proofs.Ytgkpbmgbaonbhaa
