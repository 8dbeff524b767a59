/- Package columbariumref10: Has. -/
import Derived.Test.YtcagljjbiodcoaaX10c
import Derived.Test.YtcagljjbiodcoaaHasP
import Derived.Deep.QuietTactic
namespace Go.Proofs.Ytcagljjbiodcoaa
set_option linter.unusedVariables false
open Go.RowKit

theorem xhas_any (w : World) (B p : Nat) (l : List Nat) (h : IsXR w B p l) (a : Option Addr) (c : Nat) (m : List Nat) (hm : Byt w a m) :
    Calls Try.prog 35 #[.pointer (some ⟨p, 0, none⟩), .slice a m.length c] w fun e w' => e = .returned (.bool (hasB l m)) ∧ Fr [] w w' := by
  obtain ⟨h1, ⟨g, cap, h2, h3, h4⟩, h5, h6, h7⟩ := h
  have hc := h3.cell 0
  simp at hc
  have hcap := h4.le
  have hlen := hm.len
  have HS := Lib.hid (fun (j : Nat) (hj : j + m.length ≤ l.length) o ho => h4.sub h5 h7 j m.length hj o ho)
  have HM := Lib.hid hm
  have HB := Lib.hid h5
  have HN := Lib.hid (hasB_iff l m)
  generalize hb : hasB l m = r at *
  generalize hk : m.length = k at *
  generalize hn : l.length = n at *
  have HK := Lib.hid hk
  have HL := Lib.hid hn
  clear h3 h4 h5 hm hb hk hn
  go_enter Try.func35, Try.ntmps35
  go_wp2_with fail
  go_loopw [5] (fun i W => ∃ j q : Nat, j ≤ n + 1 ∧ i = .int .i64 j ∧ W = w.drewN q ∧ ∀ t, t < j → (l.drop t).take k ≠ m) (fun i _ => n + 1 - (intOf i).toNat)
  case atStart => exact ⟨0, 0, by omega, rfl, rfl, fun t ht => by omega⟩
  case round =>
    obtain ⟨j, q, hj, rfl, rfl, hno⟩ := hrel
    by_cases hlt : j + k ≤ n
    · have b1 : decide ((j : Int) + k ≤ n) = true := by simp; omega
      have b2 : decide (j + k ≤ n) = true := by simp; omega
      obtain ⟨A, hA⟩ : ∃ A, (if cap = j then some (⟨g, 0, none⟩ : Addr) else some ⟨g, j, none⟩) = A := ⟨_, rfl⟩
      have hby : Byt w A ((l.drop j).take k) := by
        rw [← hA]
        split
        · exact HS.out j hlt 0 (.inl (by omega))
        · exact HS.out j hlt j (.inr rfl)
      have hl2 : ((l.drop j).take k).length = k := by rw [List.length_take, List.length_drop, HL.out]; omega
      have hcv1 := fun c' q => conv_str (w.drewN q) A c' _ (hby.fr ((Fr.refl [] w).drewN q) (by simp))
      have hcv2 := fun q => conv_str (w.drewN q) a c _ (HM.out.fr ((Fr.refl [] w).drewN q) (by simp))
      rw [hl2] at hcv1
      rw [HK.out] at hcv2
      have hq := strOf_eq ((l.drop j).take k) m hby.byte HM.out.byte
      have HH := Lib.hid hno
      by_cases he : (l.drop j).take k = m
      · have hr : r = true := HN.out.2 ⟨j, by omega, he⟩
        subst hr
        rw [he] at hcv1 hq
        simp only [beq_self_eq_true] at hq
        have HQ := Lib.hid hq
        clear hno hby hq hl2 he
        go_wp2_with fail
        have i1 : (0 : Int) ≤ (j : Int) := by omega
        have i2 : (j : Int) + k ≤ (n : Int) := by omega
        have i3 : (n : Int) ≤ (cap : Int) := by omega
        have i5 : (0 : Int) ≤ (j : Int) + k := by omega
        have i7 : IntKind.i64.wrap ((j : Int) + k) = (j : Int) + k := IntWalk.i64_in _ (by omega)
        have i8 : j + k - j = k := by omega
        go_quiet (fail)
        go_wp2_with fail
        go_ret
        first | exact ⟨rfl, (Fr.refl [] w).drewN _⟩ | exact ⟨rfl, ((Fr.refl [] w).drewN _).drewN _⟩
      · have hne : (((l.drop j).take k) == m) = false := by simpa using he
        rw [hne] at hq
        have i1 : (0 : Int) ≤ (j : Int) := by omega
        have i2 : (j : Int) + k ≤ (n : Int) := by omega
        have i3 : (n : Int) ≤ (cap : Int) := by omega
        have i5 : (0 : Int) ≤ (j : Int) + k := by omega
        have i7 : IntKind.i64.wrap ((j : Int) + k) = (j : Int) + k := IntWalk.i64_in _ (by omega)
        have i8 : j + k - j = k := by omega
        have HE := Lib.hid (show ∀ t, t = j → (l.drop t).take k ≠ m from fun t e => e ▸ he)
        generalize (l.drop j).take k = ms at *
        clear hno hby hl2 he hne
        go_wp2_with fail
        go_quiet (fail)
        go_wp2_with fail
        refine ⟨⟨j + 1, _, by omega, by go_num, rfl, fun t ht => ?_⟩, by simp [intOf]; omega⟩
        by_cases e : t = j
        · exact HE.out t e
        · exact HH.out t (by omega)
    · have b1 : decide ((j : Int) + k ≤ n) = false := by simp; omega
      have b2 : decide (j + k ≤ n) = false := by simp; omega
      have HH := Lib.hid hno
      clear hno
      go_wp2_with fail
      go_ret
      refine ⟨?_, (Fr.refl [] w).drewN q⟩
      have h := HN.out
      have : r = false := by
        rcases r with _ | _
        · rfl
        · obtain ⟨i, hi, he⟩ := h.1 rfl
          have hl := HL.out
          have hk := HK.out
          rcases Nat.lt_or_ge i j with h1 | h1
          · exact absurd he (HH.out i h1)
          · have := congrArg List.length he
            rw [List.length_take, List.length_drop, hl, hk] at this
            omega
      rw [this]
      rfl
end Go.Proofs.Ytcagljjbiodcoaa
