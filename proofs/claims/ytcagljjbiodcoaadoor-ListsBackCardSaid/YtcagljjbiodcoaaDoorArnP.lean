/- Package arena: Get, Put. -/
import Derived.Test.YtcagljjbiodcoaaDoorArn
namespace Go.Proofs.YtcagljjbiodcoaaDoor
set_option linter.unusedVariables false
open Go.RowKit

theorem aget_any (w : World) (p g cap : Nat) (l : List Nat) (h : IsA w p g cap l) (x wd : Int) :
    Calls Tryd.prog 105 #[.pointer (some ⟨p, 0, none⟩), .int .i64 x, .int .i64 wd] w fun e w' => e = .returned (.tuple #[.int .u64 (ldV l x wd), .int .i64 (placeE l.length x wd)]) ∧ w' = w := by
  have hn := h.none
  have hc := h.st.cell 0
  have hl := fun W (hb : Byt W (some ⟨g, 0, none⟩) l) => load_any W (some ⟨g, 0, none⟩) cap l hb x wd
  have hb := h.byt
  generalize ldV l x wd = v at *
  generalize placeE l.length x wd = e at *
  simp at hc
  have HB := Lib.hid hb
  clear hb h
  go_enter Tryd.func105, Tryd.ntmps105
  go_wp2_with fail
  with_reducible refine hn.mono ?_
  rintro e w' ⟨rfl, rfl⟩
  go_wp2_with fail
  with_reducible refine (hl _ HB.out).mono ?_
  rintro e w' ⟨rfl, rfl⟩
  go_wp2_with fail
  go_ret2
  exact ⟨rfl, rfl⟩

def putE (l : List Nat) (x wd : Int) (v : Nat) : Nat := if placeE l.length x wd ≠ 2 ∧ fitsN v wd = false then 2 else placeE l.length x wd
def putL (l : List Nat) (x wd : Int) (v : Nat) : List Nat := if putE l x wd v = 0 then putTo l x.toNat v wd.toNat else l

theorem aput_bad (w : World) (p g cap : Nat) (l : List Nat) (h : IsA w p g cap l) (x wd : Int) (v : Nat) (hv : v < 18446744073709551616) (hE : putE l x wd v ≠ 0) :
    Calls Tryd.prog 50 #[.pointer (some ⟨p, 0, none⟩), .int .i64 x, .int .i64 wd, .int .u64 v] w fun e w' => e = .returned (.int .i64 (putE l x wd v)) ∧ Fr [] w w' := by
  have hn := h.none
  have hc := h.st.cell 0
  have hl := load_any w (some ⟨g, 0, none⟩) cap l h.byt x wd
  have hf := fun w => fits_any w v hv wd
  unfold putE at hE ⊢
  generalize ldV l x wd = r at *
  generalize placeE l.length x wd = e at *
  simp at hc
  clear h
  generalize l.length = n at *
  by_cases h2 : e = 2
  · subst h2
    rw [if_neg (by simp)]
    clear hE hf
    go_enter Tryd.func50, Tryd.ntmps50
    go_wp2_with fail
    with_reducible refine hn.mono ?_
    rintro e w' ⟨rfl, rfl⟩
    go_wp2_with fail
    with_reducible refine hl.mono ?_
    rintro e w' ⟨rfl, rfl⟩
    go_wp2_with fail
    go_ret
    exact ⟨rfl, Fr.refl _ _⟩
  · have b2 : ((e : Int) != 2) = true := by simp; omega
    generalize fitsN v wd = f at *
    cases f
    · rw [if_pos ⟨h2, rfl⟩]
      clear hE h2
      go_enter Tryd.func50, Tryd.ntmps50
      go_wp2_with fail
      with_reducible refine hn.mono ?_
      rintro e w' ⟨rfl, rfl⟩
      go_wp2_with fail
      with_reducible refine hl.mono ?_
      rintro e w' ⟨rfl, rfl⟩
      go_wp2_with fail
      with_reducible refine (hf _).mono ?_
      rintro e w2 ⟨rfl, f2⟩
      go_wp2_with fail
      go_ret
      exact ⟨rfl, f2⟩
    · rw [if_neg (by simp)] at hE ⊢
      have b0 : ((e : Int) != 0) = true := by simp; omega
      clear hE h2
      go_enter Tryd.func50, Tryd.ntmps50
      go_wp2_with fail
      with_reducible refine hn.mono ?_
      rintro e w' ⟨rfl, rfl⟩
      go_wp2_with fail
      with_reducible refine hl.mono ?_
      rintro e w' ⟨rfl, rfl⟩
      go_wp2_with fail
      with_reducible refine (hf _).mono ?_
      rintro e w2 ⟨rfl, f2⟩
      go_wp2_with fail
      go_ret
      exact ⟨rfl, f2⟩

theorem u8_div' (n j : Nat) : IntKind.u8.wrap ((n : Int) / 2 ^ (8 * j)) = ((n / 256 ^ j % 256 : Nat) : Int) := by
  have : IntKind.u8.wrap ((n : Int) / 2 ^ (8 * j)) = ((n : Int) / 2 ^ (8 * j)) % 256 := rfl
  rw [this, show (256 : Nat) ^ j = 2 ^ (8 * j) by rw [Nat.pow_mul]]
  rw [Int.natCast_emod, Int.natCast_ediv, Int.natCast_pow]
  rfl

set_option maxHeartbeats 1000000 in
theorem aput_ok (w : World) (p g cap : Nat) (l : List Nat) (h : IsA w p g cap l) (x k v : Nat) (hk : k ≤ 8) (hx : x + k ≤ l.length) (hv : v < 18446744073709551616) (r : Nat)
    (hl : Calls Tryd.prog 91 #[.slice (some ⟨g, 0, none⟩) l.length cap, .int .i64 x, .int .i64 k] w fun e w' => e = .returned (.tuple #[.int .u64 r, .int .i64 0]) ∧ w' = w) (hf : fitsN v k = true) :
    Calls Tryd.prog 50 #[.pointer (some ⟨p, 0, none⟩), .int .i64 x, .int .i64 k, .int .u64 v] w fun e w' => e = .returned (.int .i64 0) ∧ IsA w' p g cap (putTo l x v k) ∧ Fr [g] w w' := by
  have hn := h.none
  have hc := h.st.cell 0
  have hft := fun w => fits_any w v hv k
  rw [hf] at hft
  have HA := Lib.hid h
  have hlen := h.len
  simp at hc
  generalize hln : l.length = n at *
  have HLN := Lib.hid hln
  clear h hf hln
  go_enter Tryd.func50, Tryd.ntmps50
  go_wp2_with fail
  with_reducible refine hn.mono ?_
  rintro e w' ⟨rfl, rfl⟩
  go_wp2_with fail
  with_reducible refine hl.mono ?_
  rintro e w' ⟨rfl, rfl⟩
  go_wp2_with fail
  with_reducible refine (hft _).mono ?_
  rintro e w2 ⟨rfl, f2⟩
  have hA2 := HA.out.fr f2 (by simp) (by simp)
  have hF2 := f2
  clear hn hl hft hc f2
  go_wp2_with fail
  go_loopw [36] (fun u W => ∃ j : Nat, j ≤ k ∧ u = .int .i64 j ∧ IsA W p g cap (putTo l x v j) ∧ Fr [g] w' W) (fun u _ => k - (intOf u).toNat)
  case atStart => exact ⟨0, by omega, rfl, hA2, hF2.mono (fun _ hm => by simp at hm)⟩
  case round =>
    clear hA2 hF2
    obtain ⟨j, hj, rfl, hA, hF⟩ := hrel
    by_cases hlt : j < k
    · have hs := HA.out.st
      have hst := hA.st.cell 0
      simp at hst
      rw [putTo_len, HLN.out] at hst
      have hi : x + j < n := by omega
      have hU := u8_div' v j
      have hgc := hA.row.cell (x + j) (by rw [putTo_len, HLN.out]; exact hi)
      have hgf := hA.row.frozen (x + j)
      generalize (putTo l x v j)[x + j]?.getD 0 = old at *
      have h64 : j ≤ 7 := by omega
      have HS := Lib.hid (show putTo l x v (j + 1) = (putTo l x v j).set (x + j) (v / 256 ^ j % 256) from rfl)
      have HA2 := Lib.hid hA
      have HF2 := Lib.hid hF
      clear hs hA hF
      go_wp2_with fail
      go_region
      go_wp2_with fail
      have hv2 : ((v : Int) / 256 ^ j % 256) = ((v / 256 ^ j % 256 : Nat) : Int) := by rw [Int.natCast_emod, Int.natCast_ediv, Int.natCast_pow]; rfl
      rw [hv2]
      refine ⟨⟨j + 1, by omega, by go_num, ?_, (HF2.out.setCell (.inl (by simp)) _).drew⟩, by simp [intOf]; omega⟩
      have := HA2.out.set (x + j) (v / 256 ^ j % 256) (by rw [putTo_len, HLN.out]; exact hi) (Nat.mod_lt _ (by decide))
      rw [HS.out]
      exact this.fr (S := []) (Fr.refl _ _).drew (by simp) (by simp)
    · obtain rfl : j = k := by omega
      go_wp2_with fail
      go_ret
      exact ⟨rfl, hA, hF⟩

theorem aput_any (w : World) (p g cap : Nat) (l : List Nat) (h : IsA w p g cap l) (x wd : Int) (v : Nat) (hv : v < 18446744073709551616) :
    Calls Tryd.prog 50 #[.pointer (some ⟨p, 0, none⟩), .int .i64 x, .int .i64 wd, .int .u64 v] w fun e w' => e = .returned (.int .i64 (putE l x wd v)) ∧ IsA w' p g cap (putL l x wd v) ∧ Fr [g] w w' := by
  by_cases hE : putE l x wd v = 0
  · have hE2 := hE
    unfold putE at hE2
    have hP : placeE l.length x wd = 0 ∧ fitsN v wd = true := by
      by_cases hc : placeE l.length x wd ≠ 2 ∧ fitsN v wd = false
      · rw [if_pos hc] at hE2; omega
      · rw [if_neg hc] at hE2
        refine ⟨hE2, ?_⟩
        rcases e : fitsN v wd with _ | _
        · exact absurd ⟨by omega, e⟩ hc
        · rfl
    have hl := load_any w (some ⟨g, 0, none⟩) cap l h.byt x wd
    rw [hP.1] at hl
    have hp := hP.1
    unfold placeE at hp
    rcases hB : widB wd with _ | _
    · rw [hB] at hp; simp at hp
    · obtain ⟨k, rfl, hk⟩ := widB_cases hB
      rw [hB] at hp
      simp only [Bool.true_eq_false, if_false] at hp
      by_cases h1 : x < 0 ∨ (l.length : Int) < x ∨ (l.length : Int) - x < k
      · rw [if_pos h1] at hp; simp at hp
      · obtain ⟨y, rfl⟩ : ∃ y : Nat, x = y := ⟨x.toNat, by omega⟩
        unfold putL
        rw [hE, if_pos rfl, Int.toNat_natCast, Int.toNat_natCast]
        exact aput_ok w p g cap l h y k v (by omega) (by omega) hv _ hl hP.2
  · unfold putL
    rw [if_neg hE]
    exact (aput_bad w p g cap l h x wd v hv hE).mono fun e w' ⟨he, hf⟩ => ⟨he, h.fr hf (by simp) (by simp), hf.mono (fun _ hm => by simp at hm)⟩
end Go.Proofs.YtcagljjbiodcoaaDoor
