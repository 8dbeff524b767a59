/- Package columbariumref01: Width, May, Fits, Load, Store. -/
import Derived.Test.YtgoogihfggndpaaGreatDoorGB
namespace Go.Proofs.YtgoogihfggndpaaGreatDoor
set_option linter.unusedVariables false
set_option linter.unusedSimpArgs false
open Go.RowKit

theorem xwidth_any (w : World) (n : Int) : Calls Tryz.prog 189 #[.int .i64 n] w fun e w' => e = .returned (.bool (widB n)) ∧ w' = w := by
  by_cases h : n = 1 ∨ n = 2 ∨ n = 4 ∨ n = 8
  · rcases h with rfl | rfl | rfl | rfl
    all_goals
      go_enter Tryz.func189, Tryz.ntmps189
      go_wp2
      go_ret
      exact ⟨rfl, rfl⟩
  · have b1 : (n == 1) = false := by simp; omega
    have b2 : (n == 2) = false := by simp; omega
    have b3 : (n == 4) = false := by simp; omega
    have b4 : (n == 8) = false := by simp; omega
    have e : widB n = false := by simp [widB]; omega
    rw [e]
    clear h e
    go_enter Tryz.func189, Tryz.ntmps189
    go_wp2
    go_ret
    exact ⟨rfl, rfl⟩

theorem xmay_any (w : World) (n : Nat) (x wd : Int) (hn : n ≤ 1099511627776) : Calls Tryz.prog 191 #[.int .i64 n, .int .i64 x, .int .i64 wd] w fun e w' => e = .returned (.int .i64 (placeE n x wd)) ∧ w' = w := by
  have hw := fun w => xwidth_any w wd
  unfold placeE
  rcases hB : widB wd with _ | _
  · rw [if_pos rfl]
    rw [hB] at hw
    clear hB
    go_enter Tryz.func191, Tryz.ntmps191
    go_wp2_with (go_at_call 189; with_reducible refine (hw _).mono ?_; rintro e w' ⟨rfl, rfl⟩)
    go_ret
    exact ⟨rfl, rfl⟩
  · rw [hB] at hw
    obtain ⟨k, rfl, hk⟩ := widB_cases hB
    rw [if_neg (by simp)]
    clear hB
    have fin : ∀ (E : Nat), (decide (x < 0) = true ∧ E = 6 ∨ decide (x < 0) = false ∧ decide ((n : Int) < x) = true ∧ E = 6 ∨ decide (x < 0) = false ∧ decide ((n : Int) < x) = false ∧ decide ((n : Int) - x < k) = true ∧ E = 6 ∧ 0 ≤ x ∧ x ≤ n ∨
        decide (x < 0) = false ∧ decide ((n : Int) < x) = false ∧ decide ((n : Int) - x < k) = false ∧ ((x % k : Int) != 0) = true ∧ E = 9 ∧ 0 ≤ x ∧ x ≤ n ∧ 0 < k ∨
        decide (x < 0) = false ∧ decide ((n : Int) < x) = false ∧ decide ((n : Int) - x < k) = false ∧ ((x % k : Int) != 0) = false ∧ E = 0 ∧ 0 ≤ x ∧ x ≤ n ∧ 0 < k) →
        Calls Tryz.prog 191 #[.int .i64 n, .int .i64 x, .int .i64 k] w fun e w' => e = .returned (.int .i64 E) ∧ w' = w := by
      rintro E (⟨b1, rfl⟩ | ⟨b1, b2, rfl⟩ | ⟨b1, b2, b3, rfl, g1, g2⟩ | ⟨b1, b2, b3, b4, rfl, g1, g2, g3⟩ | ⟨b1, b2, b3, b4, rfl, g1, g2, g3⟩)
      all_goals
        clear hk
        go_enter Tryz.func191, Tryz.ntmps191
        go_wp2_with (go_at_call 189; with_reducible refine (hw _).mono ?_; rintro e w' ⟨rfl, rfl⟩)
        go_ret
        exact ⟨rfl, rfl⟩
    refine fin _ ?_
    simp only [decide_eq_true_eq, decide_eq_false_iff_not, bne_iff_ne, bne_eq_false_iff_eq]
    by_cases h1 : x < 0 ∨ (n : Int) < x ∨ (n : Int) - x < k
    · rw [if_pos h1]; omega
    · rw [if_neg h1]
      by_cases h2 : x % (k : Int) ≠ 0
      · rw [if_pos h2]; omega
      · rw [if_neg h2]; omega

theorem xfits_any (w : World) (v : Nat) (hv : v < 18446744073709551616) (n : Int) : Calls Tryz.prog 190 #[.int .u64 v, .int .i64 n] w fun e w' => e = .returned (.bool (fitsN v n)) ∧ w' = w := by
  have hw := fun w => xwidth_any w n
  unfold fitsN
  rcases hB : widB n with _ | _
  · rw [Bool.false_and]
    rw [hB] at hw
    clear hB
    go_enter Tryz.func190, Tryz.ntmps190
    go_wp2_with (go_at_call 189; with_reducible refine (hw _).mono ?_; rintro e w' ⟨rfl, rfl⟩)
    go_ret
    exact ⟨rfl, rfl⟩
  · rw [hB] at hw
    obtain ⟨k, rfl, hk⟩ := widB_cases hB
    rw [Bool.true_and, Int.toNat_natCast]
    have hd : (((v / 256 ^ k : Nat) : Int) == 0) = decide (v < 256 ^ k) := by
      have : 0 < 256 ^ k := Nat.pow_pos (by decide)
      rw [Bool.eq_iff_iff, decide_eq_true_eq, beq_iff_eq, show ((v / 256 ^ k : Nat) : Int) = 0 ↔ v / 256 ^ k = 0 by omega, Nat.div_eq_zero_iff]
      omega
    generalize decide (v < 256 ^ k) = r at *
    have HD := Lib.hid hd
    clear hd hB
    have hk8 : k ≤ 8 := by omega
    clear hk
    go_enter Tryz.func190, Tryz.ntmps190
    go_wp2_with (go_at_call 189; with_reducible refine (hw _).mono ?_; rintro e w' ⟨rfl, rfl⟩)
    go_loop [0, 5] (fun u i => ∃ j : Nat, j ≤ k ∧ i = .int .i64 j ∧ u = .int .u64 (v / 256 ^ j : Nat)) (fun _ i => k - (intOf i).toNat)
    case atStart => exact ⟨0, by omega, rfl, by rw [Nat.pow_zero, Nat.div_one]⟩
    case round =>
      obtain ⟨j, hj, rfl, rfl⟩ := hrel
      by_cases hlt : j < k
      · have hs : v / 256 ^ (j + 1) = v / 256 ^ j / 256 := by rw [Nat.pow_succ, Nat.div_div_eq_div_mul]
        have hle : v / 256 ^ j ≤ v := Nat.div_le_self _ _
        have HS := Lib.hid hs
        generalize v / 256 ^ j = u at *
        clear hs
        go_wp2_with fail
        refine ⟨⟨j + 1, by omega, by go_num, ?_⟩, by simp [intOf]; omega⟩
        rw [HS.out]; first | rfl | (congr 1; omega)
      · obtain rfl : j = k := by omega
        have hd := HD.out
        generalize v / 256 ^ j = u at *
        go_wp2_with fail
        go_ret
        exact ⟨rfl, rfl⟩

/-- What is left of a number, once so many of its bytes were laid. -/
def vLeft (v x k j : Nat) : Nat := v / 256 ^ (min (j - x) k)
theorem vLeft_step (v x k j : Nat) (h1 : x ≤ j) (h2 : j < x + k) : vLeft v x k (j + 1) = vLeft v x k j / 256 := by
  unfold vLeft
  rw [show min (j + 1 - x) k = min (j - x) k + 1 by omega, Nat.pow_succ, Nat.div_div_eq_div_mul]
theorem vLeft_stay (v x k j : Nat) (h : j < x ∨ x + k ≤ j) : vLeft v x k (j + 1) = vLeft v x k j := by
  unfold vLeft
  rw [show min (j + 1 - x) k = min (j - x) k by omega]
theorem take_put (l : List Nat) (x v k j : Nat) (hx : x + k ≤ l.length) (hj : j < l.length) : (putTo l x v k).take (j + 1) = (putTo l x v k).take j ++ [if x ≤ j ∧ j < x + k then vLeft v x k j % 256 else l[j]?.getD 0] := by
  have h : j < (putTo l x v k).length := by rw [putTo_len]; exact hj
  rw [List.take_succ_eq_append_getElem h]
  congr 2
  have e := putTo_get l x v k hx j
  rw [List.getElem?_eq_getElem h, Option.getD_some] at e
  rw [e]
  by_cases c : x ≤ j ∧ j < x + k
  · rw [if_pos c, if_pos c]; unfold vLeft; rw [show min (j - x) k = j - x by omega]
  · rw [if_neg c, if_neg c]

theorem xstore_bad (w : World) (a : Option Addr) (c : Nat) (l : List Nat) (hl : l.length ≤ 1099511627776) (x wd : Int) (v : Nat) (hv : v < 18446744073709551616) (hE : putE l x wd v ≠ 0) :
    Calls Tryz.prog 122 #[.slice a l.length c, .int .i64 x, .int .i64 wd, .int .u64 v] w fun e w' => e = .returned (.tuple #[.slice none 0 0, .int .i64 (putE l x wd v)]) ∧ w' = w := by
  have hw := fun w => xwidth_any w wd
  have hf := fun w => xfits_any w v hv wd
  have hm := fun w => xmay_any w l.length x wd hl
  have hp2 : widB wd = true → placeE l.length x wd ≠ 2 := fun h => by unfold placeE; rw [h]; simp; split <;> (try split) <;> omega
  have hp2' : widB wd = false → placeE l.length x wd = 2 := fun h => by unfold placeE; rw [h]; simp
  unfold putE at hE ⊢
  generalize placeE l.length x wd = E at *
  have hfw : widB wd = false → fitsN v wd = false := fun h => by unfold fitsN; rw [h]; rfl
  generalize fitsN v wd = f at *
  generalize widB wd = b at *
  generalize l.length = n at *
  cases b
  · obtain rfl := hp2' rfl
    rw [if_neg (by simp)]
    clear hE hp2 hp2' hfw
    go_enter Tryz.func122, Tryz.ntmps122
    go_wp2_with (first | (go_at_call 189; with_reducible refine (hw _).mono ?_; rintro e w' ⟨rfl, rfl⟩) | (go_at_call 191; with_reducible refine (hm _).mono ?_; rintro e w' ⟨rfl, rfl⟩))
    go_ret2
    exact ⟨rfl, rfl⟩
  · have h2 := hp2 rfl
    clear hp2 hp2' hfw
    cases f
    · rw [if_pos ⟨h2, rfl⟩]
      clear hE h2
      go_enter Tryz.func122, Tryz.ntmps122
      go_wp2_with (first | (go_at_call 189; with_reducible refine (hw _).mono ?_; rintro e w' ⟨rfl, rfl⟩) | (go_at_call 190; with_reducible refine (hf _).mono ?_; rintro e w' ⟨rfl, rfl⟩))
      go_ret2
      exact ⟨rfl, rfl⟩
    · rw [if_neg (by simp)] at hE ⊢
      have b0 : ((E : Int) != 0) = true := by simp; omega
      clear hE h2
      go_enter Tryz.func122, Tryz.ntmps122
      go_wp2_with (first | (go_at_call 189; with_reducible refine (hw _).mono ?_; rintro e w' ⟨rfl, rfl⟩) | (go_at_call 190; with_reducible refine (hf _).mono ?_; rintro e w' ⟨rfl, rfl⟩) | (go_at_call 191; with_reducible refine (hm _).mono ?_; rintro e w' ⟨rfl, rfl⟩))
      go_ret2
      exact ⟨rfl, rfl⟩

theorem byt_one (w : World) (k : Nat) (hk : k < 256) : Byt (w.alloc (.cells #[.int .u8 (k : Int)] 5)) (some ⟨w.heap.size, 0, none⟩) [k] :=
  Blk.byt (l := [k]) (Blk.new w 5 (bytes [k])) (by simpa using hk) (by simp)

def StoreRel (w : World) (l : List Nat) (x v k : Nat) (u o i : Value) (W : World) : Prop :=
  ∃ j : Nat, j ≤ l.length ∧ i = .int .i64 j ∧ u = .int .u64 (vLeft v x k j : Nat) ∧ OwnB W w.heap.size o ((putTo l x v k).take j) ∧ Fr [] w W
set_option maxHeartbeats 1000000 in
theorem xstore_ok (w : World) (g o c : Nat) (l : List Nat) (h : Byt w (some ⟨g, o, none⟩) l) (x k v : Nat) (hv : v < 18446744073709551616) (hk8 : k ≤ 8) (hx : x + k ≤ l.length) (hlm : l.length ≤ 1048576)
    (hm : ∀ w, Calls Tryz.prog 191 #[.int .i64 l.length, .int .i64 x, .int .i64 k] w fun e w' => e = .returned (.int .i64 0) ∧ w' = w)
    (hw : ∀ w, Calls Tryz.prog 189 #[.int .i64 k] w fun e w' => e = .returned (.bool true) ∧ w' = w) (hf : ∀ w, Calls Tryz.prog 190 #[.int .u64 v, .int .i64 k] w fun e w' => e = .returned (.bool true) ∧ w' = w) :
    Calls Tryz.prog 122 #[.slice (some ⟨g, o, none⟩) l.length c, .int .i64 x, .int .i64 k, .int .u64 v] w fun e w' => ∃ u, e = .returned (.tuple #[u, .int .i64 0]) ∧ OwnB w' w.heap.size u (putTo l x v k) ∧ Fr [] w w' := by
  have HR := Lib.hid (show ∀ u o i W, StoreRel w l x v k u o i W = ∃ j : Nat, j ≤ l.length ∧ i = .int .i64 j ∧ u = .int .u64 (vLeft v x k j : Nat) ∧ OwnB W w.heap.size o ((putTo l x v k).take j) ∧ Fr [] w W from fun _ _ _ _ => rfl)
  generalize StoreRel w l x v k = R at *
  have HH := Lib.hid h
  have HT := Lib.hid (fun j => take_put l x v k j hx)
  have HF := Lib.hid (show (putTo l x v k).take l.length = putTo l x v k from List.take_of_length_le (by rw [putTo_len]; exact Nat.le_refl _))
  have HV0 := Lib.hid (show vLeft v x k 0 = v by unfold vLeft; simp)
  generalize hn : l.length = n at *
  have HN := Lib.hid hn
  clear h hn
  go_enter Tryz.func122, Tryz.ntmps122
  go_wp2_with (first | (go_at_call 189; with_reducible refine (hw _).mono ?_; rintro e w' ⟨rfl, rfl⟩) | (go_at_call 190; with_reducible refine (hf _).mono ?_; rintro e w' ⟨rfl, rfl⟩) | (go_at_call 191; with_reducible refine (hm _).mono ?_; rintro e w' ⟨rfl, rfl⟩))
  go_loopw [3, 11, 12] (fun u o i W => R u o i W) (fun _ _ i _ => n - (intOf i).toNat)
  case atStart => rw [HR.out]; exact ⟨0, by omega, rfl, by rw [HV0.out], OwnB.nil _ _, Fr.refl _ _⟩
  case round =>
    rw [HR.out] at hrel
    obtain ⟨j, hj, rfl, rfl, hO, hF⟩ := hrel
    by_cases hlt : j < n
    · have ht := HT.out j hlt
      obtain ⟨g', o', ee, hc, _⟩ := (HH.out.fr hF (by simp)).at_ j (by rw [HN.out]; exact hlt)
      injection ee with ee
      injection ee with e2 e3
      subst e2 e3
      have hbb : l[j]?.getD 0 < 256 := by
        have : j < l.length := by rw [HN.out]; exact hlt
        rw [List.getElem?_eq_getElem this]; exact HH.out.byte _ (List.getElem_mem _)
      have hl0 : ((putTo l x v k).take j).length ≤ 1048576 := by simp; omega
      have hz := hF.size
      by_cases hin : x ≤ j ∧ j < x + k
      · rw [if_pos hin] at ht
        have hs := vLeft_step v x k j hin.1 hin.2
        have hle : vLeft v x k j ≤ v := Nat.div_le_self _ _
        generalize vLeft v x k j = u at *
        have b1 : decide ((j : Int) < x) = false := by simp; omega
        have b1' : decide (j < x) = false := by simp; omega
        have b2 : decide ((x : Int) + k ≤ j) = false := by simp; omega
        have b2' : decide (x + k ≤ j) = false := by simp; omega
        have HS := Lib.hid hs
        have HTT := Lib.hid ht
        have HO := Lib.hid hO
        have HFF := Lib.hid hF
        generalize (putTo l x v k).take j = pre at *
        have hby := byt_one wr (u % 256) (Nat.mod_lt _ (by decide))
        have e3 : ((u % 256 : Nat) : Int) = (u : Int) % 256 := by omega
        rw [e3] at hby
        clear hs ht hO hF hin hbb e3
        go_wp2_with (at_builtin; refine wpList_app rfl _ _ rfl rfl w'.heap.size _ _ rfl (HO.out.alloc _) _ _ _ [u % 256] rfl rfl hby (by simp; omega) (by simp; omega) ?_; intro v1 W1 hO1 hgr1 hob1)
        rw [HR.out]
        refine ⟨⟨j + 1, by omega, by go_num, ?_, ?_, ?_⟩, by simp [intOf]; omega⟩
        · rw [HS.out]; rfl
        · rw [HTT.out]; exact hO1
        · exact (HO.out.alloc _).fr hgr1 (HFF.out.alloc _) (Nat.le_refl _)
      · rw [if_neg hin] at ht
        have hs := vLeft_stay v x k j (by omega)
        have hle : vLeft v x k j ≤ v := Nat.div_le_self _ _
        generalize vLeft v x k j = u at *
        have HS := Lib.hid hs
        have HTT := Lib.hid ht
        have HO := Lib.hid hO
        have HFF := Lib.hid hF
        generalize (putTo l x v k).take j = pre at *
        generalize l[j]?.getD 0 = b at *
        have hby := byt_one wr b hbb
        clear hs ht hO hF
        have fin : (decide ((j : Int) < x) = true ∧ decide (j < x) = true ∨ decide ((j : Int) < x) = false ∧ decide (j < x) = false ∧ decide ((x : Int) + k ≤ j) = true ∧ decide (x + k ≤ j) = true) := by simp only [decide_eq_true_eq, decide_eq_false_iff_not]; omega
        clear hin
        rcases fin with ⟨b1, b1'⟩ | ⟨b1, b1', b2, b2'⟩
        all_goals
          go_wp2_with (at_builtin; refine wpList_app rfl _ _ rfl rfl w'.heap.size _ _ rfl (HO.out.alloc _) _ _ _ [b] rfl rfl hby (by simp; omega) (by simp; omega) ?_; intro v1 W1 hO1 hgr1 hob1)
          rw [HR.out]
          refine ⟨⟨j + 1, by omega, by go_num, by rw [HS.out], ?_, ?_⟩, by simp [intOf]; omega⟩
          · rw [HTT.out]; exact hO1
          · exact (HO.out.alloc _).fr hgr1 (HFF.out.alloc _) (Nat.le_refl _)
    · obtain rfl : j = n := by omega
      have HFF := Lib.hid hF
      rw [HF.out] at hO
      have HO := Lib.hid hO
      clear hO hF
      go_wp2_with fail
      go_ret2
      exact ⟨_, rfl, HO.out, HFF.out⟩
end Go.Proofs.YtgoogihfggndpaaGreatDoor
