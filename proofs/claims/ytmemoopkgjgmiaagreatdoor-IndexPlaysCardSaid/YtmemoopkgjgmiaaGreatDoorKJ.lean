/- Several texts in one. -/
import Derived.Test.YtmemoopkgjgmiaaGreatDoorKG
import Derived.Test.YtmemoopkgjgmiaaGreatDoorGA
import Derived.WalkKit
import Derived.ProofKit
import Derived.Lib.MinMax
import Derived.Test.YtmemoopkgjgmiaaGreatDoorGD
import Derived.Test.YtmemoopkgjgmiaaGreatDoorKT
import Derived.Test.YtmemoopkgjgmiaaGreatDoorKI
import Derived.BigQuiet
/- The document's table of layer 19: how far, whether it is right, what it has, where to put, what is found. -/
namespace Go.Proofs.YtmemoopkgjgmiaaGreatDoor
set_option linter.unusedVariables false
set_option linter.unusedSimpArgs false
open Go.RowKit

/-- A table's cells. -/
def RowT (w : World) (g cap n : Nat) (c : Nat → Nat × Nat) : Prop := ∃ cur, Blk w g 172 cur ∧ cur.size = cap * 2 ∧ n ≤ cap ∧ ∀ i, i < n → cur[i * 2]? = some (.int .u32 (c i).1) ∧ cur[i * 2 + 1]? = some (.int .i64 (c i).2)
/-- What a slot names, and its home. -/
def cT (T H : Nat → Nat) (i : Nat) : Nat × Nat := if T i = 0 then (0, 0) else (T i, H (T i))
theorem cT_id (T H : Nat → Nat) (i : Nat) : (cT T H i).1 = T i := by
  unfold cT
  split
  · rename_i h; rw [h]
  · rfl
theorem cT_no {T H : Nat → Nat} {i : Nat} (h : T i = 0) : cT T H i = (0, 0) := if_pos h
theorem cT_is {T H : Nat → Nat} {i : Nat} (h : T i ≠ 0) : cT T H i = (T i, H (T i)) := if_neg h
section
variable {w W : World} {g cap n : Nat} {c : Nat → Nat × Nat} {T H : Nat → Nat}
theorem RowT.fr {S : List Nat} (h : RowT w g cap n c) (hf : Fr S w W) (hg : g ∉ S) : RowT W g cap n c := by
  obtain ⟨cur, hb, r⟩ := h
  exact ⟨cur, hb.fr hf hg, r⟩
theorem RowT.le (h : RowT w g cap n c) : n ≤ cap := by
  obtain ⟨cur, hb, h1, h2, _⟩ := h
  exact h2
theorem RowT.lt (h : RowT w g cap n c) : g < w.heap.size := by
  obtain ⟨cur, hb, _⟩ := h
  exact hb.lt
theorem RowT.id (h : RowT w g cap n c) {i : Nat} (hi : i < n) : w.cell? ⟨g, i * 2, none⟩ = some (.int .u32 (c i).1) := by
  obtain ⟨cur, hb, _, _, hc⟩ := h
  rw [hb.cell, (hc i hi).1]
theorem RowT.home (h : RowT w g cap n c) {i : Nat} (hi : i < n) : w.cell? ⟨g, i * 2 + 1, none⟩ = some (.int .i64 (c i).2) := by
  obtain ⟨cur, hb, _, _, hc⟩ := h
  rw [hb.cell, (hc i hi).2]
theorem RowT.congr {d : Nat → Nat × Nat} (h : RowT w g cap n c) (he : ∀ i, i < n → d i = c i) : RowT w g cap n d := by
  obtain ⟨cur, hb, h1, h2, hc⟩ := h
  exact ⟨cur, hb, h1, h2, fun i hi => by rw [he i hi]; exact hc i hi⟩
theorem x_dist (w : World) (n h s : Nat) (hh : h < n) (hs : s < n) (hn : n ≤ 1048576) : Calls Tryz.prog 296 #[.int .i64 n, .int .i64 h, .int .i64 s] w fun e w' => e = .returned (.int .i64 (dst n h s)) ∧ w' = w := by
  have b1 : decide ((h : Int) < 0) = false := decide_eq_false (by omega)
  have b2 : decide ((n : Int) ≤ h) = false := decide_eq_false (by omega)
  have b2' : decide (n ≤ h) = false := decide_eq_false (by omega)
  have b3 : decide ((s : Int) < 0) = false := decide_eq_false (by omega)
  have b4 : decide ((n : Int) ≤ s) = false := decide_eq_false (by omega)
  have b4' : decide (n ≤ s) = false := decide_eq_false (by omega)
  unfold dst
  by_cases hlt : s < h
  · rw [if_pos hlt]
    have b5 : decide ((h : Int) ≤ s) = false := decide_eq_false (by omega)
    have b5' : decide (h ≤ s) = false := decide_eq_false (by omega)
    have w1 : IntKind.i64.wrap ((s : Int) + n) = (s : Int) + n := IntWalk.i64_in _ (by omega)
    have w2 : IntKind.i64.wrap ((s : Int) + n - h) = ((s + n - h : Nat) : Int) := by rw [IntWalk.i64_in _ (by omega)]; omega
    generalize s + n - h = d at *
    clear hlt
    go_enter Tryz.func296, Tryz.ntmps296
    go_wp2_with fail
    go_ret
    exact ⟨rfl, rfl⟩
  · rw [if_neg hlt]
    have b5 : decide ((h : Int) ≤ s) = true := decide_eq_true (by omega)
    have b5' : decide (h ≤ s) = true := decide_eq_true (by omega)
    have w2 : IntKind.i64.wrap ((s : Int) - h) = ((s - h : Nat) : Int) := by rw [IntWalk.i64_in _ (by omega)]; omega
    generalize s - h = d at *
    clear hlt
    go_enter Tryz.func296, Tryz.ntmps296
    go_wp2_with fail
    go_ret
    exact ⟨rfl, rfl⟩
theorem x_far (h : RowT w g cap n c) (i : Nat) (hi : i < n) (hc : (c i).2 < n) (hn : n ≤ 1048576) : Calls Tryz.prog 202 #[.slice (some ⟨g, 0, none⟩) n cap, .int .i64 i] w fun e w' => e = .returned (.int .i64 (dst n (c i).2 i)) ∧ w' = w := by
  have hd := x_dist w n (c i).2 i hc hi hn
  have c1 := h.home hi
  have hle := h.le
  have g1 : (0 : Int) ≤ i := by omega
  have g2 : (i : Int) < n := by omega
  generalize dst n (c i).2 i = d at *
  generalize (c i).2 = hm at *
  clear h
  go_enter Tryz.func202, Tryz.ntmps202
  go_wp2_with fail
  with_reducible refine hd.mono ?_
  rintro e w1 ⟨rfl, rfl⟩
  go_wp2_with fail
  go_ret
  exact ⟨rfl, rfl⟩
set_option maxRecDepth 100000 in
theorem x_right (h : RowT w g cap n (cT T H)) (r : RZ n T H) (hn : n ≤ 65536) : Calls Tryz.prog 201 #[.slice (some ⟨g, 0, none⟩) n cap] w fun e w' => e = .returned (.bool true) ∧ Fr [] w w' := by
  have h0 := r.r.n0
  have hm := r.r.hm
  have HID := Lib.hid (fun V (hV : Fr [] w V) i (hi : i < n) => (show V.cell? ⟨g, i * 2, none⟩ = some (.int .u32 (T i)) from by
    have := (h.fr hV (by simp)).id hi
    rwa [cT_id] at this))
  have HH0 := Lib.hid (fun V (hV : Fr [] w V) i (hi : i < n) (e : T i = 0) => (show V.cell? ⟨g, i * 2 + 1, none⟩ = some (.int .i64 0) from by
    have := (h.fr hV (by simp)).home hi
    rwa [cT_no e] at this))
  have HH1 := Lib.hid (fun V (hV : Fr [] w V) i (hi : i < n) (e : T i ≠ 0) => (show V.cell? ⟨g, i * 2 + 1, none⟩ = some (.int .i64 (H (T i))) from by
    have := (h.fr hV (by simp)).home hi
    rwa [cT_is e] at this))
  have HND := Lib.hid r.nd
  have HFR := Lib.hid (fun V (hV : Fr [] w V) i (hi : i < n) (e : T i ≠ 0) => (show Calls Tryz.prog 202 #[.slice (some ⟨g, 0, none⟩) n cap, .int .i64 i] V fun e w' => e = .returned (.int .i64 (dst n (H (T i)) i)) ∧ w' = V from by
    have := x_far (h.fr hV (by simp)) i hi (by rw [cT_is e]; exact hm _) (by omega)
    rwa [cT_is e] at this))
  have HPR := Lib.hid (show ∀ i, i < n → T i ≠ 0 → 0 < dst n (H (T i)) i → T ((i + n - 1) % n) ≠ 0 ∧ dst n (H (T i)) i ≤ dst n (H (T ((i + n - 1) % n))) ((i + n - 1) % n) + 1 from fun i hi e hd => by
    have hpl : (i + n - 1) % n < n := Nat.mod_lt _ h0
    have he : ((i + n - 1) % n + 1) % n = i := by
      rw [Nat.mod_add_mod, show i + n - 1 + 1 = i + n by omega, Nat.add_mod_right, Nat.mod_eq_of_lt hi]
    have := r.r.rh _ hpl
    rw [he] at this
    exact this e hd)
  have HDL := Lib.hid (show ∀ i, i < n → ∀ y, dst n (H y) i < n from fun i hi y => dst_lt (hm y) hi)
  have HM := Lib.hid hm
  have hle := h.le
  clear h r hm
  go_enter Tryz.func201, Tryz.ntmps201
  go_wp2_with fail
  go_loopw [3] (fun v W => ∃ i : Nat, i ≤ n ∧ v = .int .i64 i ∧ Fr [] w W) (fun v _ => n - (intOf v).toNat)
  case atStart => exact ⟨0, by omega, rfl, Fr.refl _ _⟩
  case round =>
    obtain ⟨i, hi, rfl, hF⟩ := hrel
    have F1 := Lib.hid hF
    have g1 : (0 : Int) ≤ i := by omega
    have wi : IntKind.i64.wrap ((i : Int) + 1) = (i : Int) + 1 := IntWalk.i64_in _ (by omega)
    by_cases hlt : i < n
    · have b1 : decide ((i : Int) < n) = true := decide_eq_true (by omega)
      have b1' : decide (i < n) = true := decide_eq_true hlt
      have g2 : (i : Int) < n := by omega
      have c0 := HID.out _ hF i hlt
      by_cases e0 : T i = 0
      · have c1 := HH0.out _ hF i hlt e0
        rw [e0] at c0
        have b2 : (((0 : Nat) : Int) == 0) = true := rfl
        clear hF
        go_wp2_with fail
        go_roundw
        case rel => exact ⟨i + 1, by omega, by go_num, F1.out⟩
        case measure => simp [intOf]; omega
      · have c1 := HH1.out _ hF i hlt e0
        have hmi := HM.out (T i)
        have hne : ∀ k, k < i → T k ≠ T i := fun k hk e => by
          have := HND.out i k hlt (by omega) e0 e.symm
          omega
        have b2 : ((T i : Int) == 0) = false := by rw [beq_eq_false_iff_ne]; omega
        have b2' : (T i == 0) = false := by rw [beq_eq_false_iff_ne]; omega
        have b3 : decide ((H (T i) : Int) < 0) = false := decide_eq_false (by omega)
        have b4 : decide ((n : Int) ≤ H (T i)) = false := decide_eq_false (by omega)
        have b4' : decide (n ≤ H (T i)) = false := decide_eq_false (by omega)
        have HNE := Lib.hid (show ∀ k, k < i → ((T k : Int) == T i) = false ∧ (T k == T i) = false from fun k hk => by
          have := hne k hk
          constructor <;> rw [beq_eq_false_iff_ne] <;> omega)
        generalize hmh : H (T i) = hh at *
        generalize hti : T i = ti at *
        have HTI := Lib.hid hti
        clear hF hne hmh hti e0
        go_wp2_with fail
        go_loopw [4] (fun v W => ∃ k : Nat, k ≤ i ∧ v = .int .i64 k ∧ Fr [] w W) (fun v _ => i - (intOf v).toNat)
        case atStart => exact ⟨0, by omega, rfl, F1.out⟩
        case round =>
          obtain ⟨k, hk, rfl, hF⟩ := hrel
          have F2 := Lib.hid hF
          have g3 : (0 : Int) ≤ k := by omega
          have wk : IntKind.i64.wrap ((k : Int) + 1) = (k : Int) + 1 := IntWalk.i64_in _ (by omega)
          by_cases hki : k < i
          · have b5 : decide ((k : Int) < i) = true := decide_eq_true (by omega)
            have b5' : decide (k < i) = true := decide_eq_true hki
            have g4 : (k : Int) < n := by omega
            have d0 := HID.out _ hF k (by omega)
            have d1 := HID.out _ hF i hlt
            rw [HTI.out] at d1
            obtain ⟨b6, b6'⟩ := HNE.out k hki
            generalize T k = tk at *
            clear hF
            go_wp2_with fail
            go_quiet (fail)
            go_wp2_with fail
            go_roundw
            case rel => exact ⟨k + 1, by omega, by go_num, F2.out.drewN _⟩
            case measure => simp [intOf]; omega
          · have b5 : decide ((k : Int) < i) = false := decide_eq_false (by omega)
            have b5' : decide (k < i) = false := decide_eq_false hki
            clear hF hki
            go_wp2_with fail
            go_roundw
            case rel => exact ⟨i + 1, by omega, by go_num, F2.out⟩
            case measure => simp [intOf]; omega
    · have b1 : decide ((i : Int) < n) = false := decide_eq_false (by omega)
      have b1' : decide (i < n) = false := decide_eq_false hlt
      clear hF hlt
      go_wp2_with fail
      go_loopw [5] (fun v W => ∃ i : Nat, i ≤ n ∧ v = .int .i64 i ∧ Fr [] w W) (fun v _ => n - (intOf v).toNat)
      case atStart => exact ⟨0, by omega, rfl, F1.out⟩
      case round =>
        clear F1
        obtain ⟨i, hi, rfl, hF⟩ := hrel
        have F1 := Lib.hid hF
        have g1 : (0 : Int) ≤ i := by omega
        have wi : IntKind.i64.wrap ((i : Int) + 1) = (i : Int) + 1 := IntWalk.i64_in _ (by omega)
        by_cases hlt : i < n
        · have b1 : decide ((i : Int) < n) = true := decide_eq_true (by omega)
          have b1' : decide (i < n) = true := decide_eq_true hlt
          have g2 : (i : Int) < n := by omega
          have c0 := HID.out _ hF i hlt
          have z1 : ((n : Int) == 0) = false := by rw [beq_eq_false_iff_ne]; omega
          have z1' : (n == 0) = false := by rw [beq_eq_false_iff_ne]; omega
          have w1 : IntKind.i64.wrap ((i : Int) + n) = (i : Int) + n := IntWalk.i64_in _ (by omega)
          have w2 : IntKind.i64.wrap ((i : Int) + n - 1) = (i : Int) + n - 1 := IntWalk.i64_in _ (by omega)
          have hpl : (i + n - 1) % n < n := Nat.mod_lt _ h0
          have w3 : ((i : Int) + n - 1).tmod n = ((i + n - 1) % n : Nat) := by
            rw [show (i : Int) + n - 1 = ((i + n - 1 : Nat) : Int) by omega, ← Int.ofNat_tmod]
          have w3' : ((i : Int) + n - 1) % n = ((i + n - 1) % n : Nat) := by
            rw [show (i : Int) + n - 1 = ((i + n - 1 : Nat) : Int) by omega, ← Int.natCast_emod]
          have w3'' : IntKind.i64.wrap (((i + n - 1) % n : Nat) : Int) = ((i + n - 1) % n : Nat) := IntWalk.i64_in _ (by omega)
          by_cases e0 : T i = 0
          · rw [e0] at c0
            clear hF hpl
            generalize (i + n - 1) % n = p at *
            go_wp2_with fail
            go_roundw
            case rel => exact ⟨i + 1, by omega, by go_num, F1.out⟩
            case measure => simp [intOf]; omega
          · have b2 : ((T i : Int) != 0) = true := by simp; omega
            have b2' : (T i != 0) = true := by simp; omega
            have hfr := HFR.out _ hF i hlt e0
            have hdl := HDL.out i hlt (T i)
            by_cases hd : 0 < dst n (H (T i)) i
            · obtain ⟨p1, p2⟩ := HPR.out i hlt e0 hd
              have c1 := HID.out _ hF _ hpl
              have hfp := HFR.out _ hF _ hpl p1
              have hdp := HDL.out _ hpl (T ((i + n - 1) % n))
              generalize dst n (H (T ((i + n - 1) % n))) ((i + n - 1) % n) = dp at *
              generalize dst n (H (T i)) i = di at *
              generalize T ((i + n - 1) % n) = tp at *
              generalize T i = ti at *
              generalize (i + n - 1) % n = p at *
              have b3 : decide ((0 : Int) < di) = true := decide_eq_true (by omega)
              have b3' : decide (0 < di) = true := decide_eq_true hd
              have b4 : ((tp : Int) == 0) = false := by rw [beq_eq_false_iff_ne]; omega
              have b4' : (tp == 0) = false := by rw [beq_eq_false_iff_ne]; omega
              have w4 : IntKind.i64.wrap ((di : Int) - 1) = (di : Int) - 1 := IntWalk.i64_in _ (by omega)
              have b5 : decide ((dp : Int) < (di : Int) - 1) = false := decide_eq_false (by omega)
              have g3 : (0 : Int) ≤ p := by omega
              have g4 : (p : Int) < n := by omega
              clear hF hd p1 p2 e0
              go_wp2_with fail
              with_reducible refine hfr.mono ?_
              rintro e w1 ⟨rfl, rfl⟩
              go_wp2_with fail
              with_reducible refine hfp.mono ?_
              rintro e w1 ⟨rfl, rfl⟩
              go_wp2_with fail
              with_reducible refine hfr.mono ?_
              rintro e w1 ⟨rfl, rfl⟩
              go_wp2_with fail
              go_roundw
              case rel => exact ⟨i + 1, by omega, by go_num, F1.out⟩
              case measure => simp [intOf]; omega
            · have hd0 : dst n (H (T i)) i = 0 := by omega
              rw [hd0] at hfr
              generalize T i = ti at *
              have b3 : decide ((0 : Int) < ((0 : Nat) : Int)) = false := rfl
              generalize (i + n - 1) % n = p at *
              clear hF hd hd0 e0
              go_wp2_with fail
              with_reducible refine hfr.mono ?_
              rintro e w1 ⟨rfl, rfl⟩
              go_wp2_with fail
              go_roundw
              case rel => exact ⟨i + 1, by omega, by go_num, F1.out⟩
              case measure => simp [intOf]; omega
        · have b1 : decide ((i : Int) < n) = false := decide_eq_false (by omega)
          have b1' : decide (i < n) = false := decide_eq_false hlt
          have b2 : decide ((0 : Int) < n) = true := decide_eq_true (by omega)
          have b2' : decide (0 < n) = true := decide_eq_true h0
          clear hF hlt
          go_wp2_with fail
          go_ret
          exact ⟨rfl, F1.out⟩
theorem x_has (h : RowT w g cap n c) (id : Nat) (b : Bool) (hb : b = true ↔ ∃ i, i < n ∧ (c i).1 = id) (hn : n ≤ 1048576) : Calls Tryz.prog 205 #[.slice (some ⟨g, 0, none⟩) n cap, .int .u32 id] w fun e w' => e = .returned (.bool b) ∧ Fr [] w w' := by
  have HC := Lib.hid (fun V (hV : Fr [] w V) i (hi : i < n) => (h.fr hV (by simp)).id hi)
  have hle := h.le
  have HB := Lib.hid hb
  clear h hb
  go_enter Tryz.func205, Tryz.ntmps205
  go_wp2_with fail
  go_loopw [5] (fun v W => ∃ i : Nat, i ≤ n ∧ v = .int .i64 i ∧ Fr [] w W ∧ ∀ j, j < i → (c j).1 ≠ id) (fun v _ => n - (intOf v).toNat)
  case atStart => exact ⟨0, by omega, rfl, Fr.refl _ _, fun j hj => by omega⟩
  case round =>
    obtain ⟨i, hi, rfl, hF, hno⟩ := hrel
    have F1 := Lib.hid hF
    have HNO := Lib.hid hno
    have g1 : (0 : Int) ≤ i := by omega
    have wi : IntKind.i64.wrap ((i : Int) + 1) = (i : Int) + 1 := IntWalk.i64_in _ (by omega)
    by_cases hlt : i < n
    · have b1 : decide ((i : Int) < n) = true := decide_eq_true (by omega)
      have b1' : decide (i < n) = true := decide_eq_true hlt
      have g2 : (i : Int) < n := by omega
      have c0 := HC.out _ hF i hlt
      by_cases e : (c i).1 = id
      · have hbt := HB.out.2 ⟨i, hlt, e⟩
        subst hbt
        rw [e] at c0
        have b2 : ((id : Int) == id) = true := beq_self_eq_true _
        clear hF hno e
        go_wp2_with fail
        try go_quiet (fail)
        try go_wp2_with fail
        go_ret
        exact ⟨rfl, by first | exact F1.out | exact F1.out.drewN _⟩
      · have HNO2 := Lib.hid (show ∀ j, j < i + 1 → (c j).1 ≠ id from fun j hj => by
          by_cases hji : j = i
          · rw [hji]; exact e
          · exact hno j (by omega))
        have b2 : (((c i).1 : Int) == id) = false := by rw [beq_eq_false_iff_ne]; omega
        have b2' : ((c i).1 == id) = false := by rw [beq_eq_false_iff_ne]; omega
        generalize (c i).1 = y at *
        clear hF hno e
        go_wp2_with fail
        try go_quiet (fail)
        try go_wp2_with fail
        go_roundw
        case rel => exact ⟨i + 1, by omega, by go_num, by first | exact F1.out | exact F1.out.drewN _, HNO2.out⟩
        case measure => simp [intOf]; omega
    · have b1 : decide ((i : Int) < n) = false := decide_eq_false (by omega)
      have b1' : decide (i < n) = false := decide_eq_false hlt
      have hbf : b = false := by
        cases b with
        | false => rfl
        | true =>
          obtain ⟨j, hj, e⟩ := HB.out.1 rfl
          exact absurd e (hno j (by omega))
      subst hbf
      clear hF hno hlt
      go_wp2_with fail
      go_ret
      exact ⟨rfl, F1.out⟩
end
end Go.Proofs.YtmemoopkgjgmiaaGreatDoor

/- The document's table of layer 19: where to put, what is found. -/
namespace Go.Proofs.YtmemoopkgjgmiaaGreatDoor
set_option linter.unusedVariables false
set_option linter.unusedSimpArgs false
open Go.RowKit

section
variable {w W : World} {g cap n : Nat} {c : Nat → Nat × Nat} {T H : Nat → Nat}
set_option maxRecDepth 100000 in
theorem x_place (h : RowT w g cap n (cT T H)) (r : RZ n T H) (hn : n ≤ 65536) (hm : Nat) (hh : hm < n) (k : Nat) (hk : k < n) (no : ∀ j, j < k → endB T H n (hm + j) j = false) (yes : endB T H n (hm + k) k = true) :
    Calls Tryz.prog 206 #[.slice (some ⟨g, 0, none⟩) n cap, .int .i64 hm] w fun e w' => e = .returned (.int .i64 ((hm + k) % n : Nat)) ∧ Fr [] w w' := by
  have h0 := r.r.n0
  have HID := Lib.hid (fun V (hV : Fr [] w V) i (hi : i < n) => (show V.cell? ⟨g, i * 2, none⟩ = some (.int .u32 (T i)) from by
    have := (h.fr hV (by simp)).id hi
    rwa [cT_id] at this))
  have HFR := Lib.hid (fun V (hV : Fr [] w V) i (hi : i < n) (e : T i ≠ 0) => (show Calls Tryz.prog 202 #[.slice (some ⟨g, 0, none⟩) n cap, .int .i64 i] V fun e w' => e = .returned (.int .i64 (dst n (H (T i)) i)) ∧ w' = V from by
    have := x_far (h.fr hV (by simp)) i hi (by rw [cT_is e]; exact r.r.hm _) (by omega)
    rwa [cT_is e] at this))
  have HEN := Lib.hid (show ∀ j, endB T H n (hm + j) j = if T ((hm + j) % n) = 0 then true else decide (dst n (H (T ((hm + j) % n))) ((hm + j) % n) < j) from fun j => by
    unfold endB
    rw [farT_dst])
  have HNO := Lib.hid no
  have HYE := Lib.hid yes
  have hle := h.le
  clear h r no yes
  go_enter Tryz.func206, Tryz.ntmps206
  go_wp2_with fail
  go_loopw [5] (fun v W => ∃ j : Nat, j ≤ k ∧ v = .int .i64 j ∧ Fr [] w W) (fun v _ => k - (intOf v).toNat)
  case atStart => exact ⟨0, by omega, rfl, Fr.refl _ _⟩
  case round =>
    obtain ⟨j, hj, rfl, hF⟩ := hrel
    have F1 := Lib.hid hF
    have g1 : (0 : Int) ≤ j := by omega
    have b1 : decide ((j : Int) < n) = true := decide_eq_true (by omega)
    have b1' : decide (j < n) = true := decide_eq_true (by omega)
    have wj : IntKind.i64.wrap ((j : Int) + 1) = (j : Int) + 1 := IntWalk.i64_in _ (by omega)
    have w1 : IntKind.i64.wrap ((hm : Int) + j) = (hm : Int) + j := IntWalk.i64_in _ (by omega)
    have z1 : ((n : Int) == 0) = false := by rw [beq_eq_false_iff_ne]; omega
    have z1' : (n == 0) = false := by rw [beq_eq_false_iff_ne]; omega
    have hpl : (hm + j) % n < n := Nat.mod_lt _ h0
    have w3 : ((hm : Int) + j).tmod n = ((hm + j) % n : Nat) := by
      rw [show (hm : Int) + j = ((hm + j : Nat) : Int) by omega, ← Int.ofNat_tmod]
    have w3' : ((hm : Int) + j) % n = ((hm + j) % n : Nat) := by
      rw [show (hm : Int) + j = ((hm + j : Nat) : Int) by omega, ← Int.natCast_emod]
    have w3'' : IntKind.i64.wrap (((hm + j) % n : Nat) : Int) = ((hm + j) % n : Nat) := IntWalk.i64_in _ (by omega)
    have c0 := HID.out _ hF _ hpl
    have g3 : (0 : Int) ≤ ((hm + j) % n : Nat) := by omega
    have g4 : (((hm + j) % n : Nat) : Int) < n := by omega
    have hen := HEN.out j
    by_cases hjk : j < k
    · have e := HNO.out j hjk
      rw [hen] at e
      by_cases e0 : T ((hm + j) % n) = 0
      · rw [if_pos e0] at e; exact nomatch e
      · rw [if_neg e0] at e
        have hfr := HFR.out _ hF _ hpl e0
        have b2 : ((T ((hm + j) % n) : Int) == 0) = false := by rw [beq_eq_false_iff_ne]; omega
        have b2' : (T ((hm + j) % n) == 0) = false := by rw [beq_eq_false_iff_ne]; omega
        have hge := of_decide_eq_false e
        have b3 : decide (((dst n (H (T ((hm + j) % n))) ((hm + j) % n) : Nat) : Int) < j) = false := decide_eq_false (by omega)
        have b3' := e
        clear e hen hge e0 hF
        generalize dst n (H (T ((hm + j) % n))) ((hm + j) % n) = d at *
        generalize T ((hm + j) % n) = t at *
        generalize hpe : (hm + j) % n = p at *
        have HPE := Lib.hid hpe
        clear hpe
        go_wp2_with fail
        with_reducible refine hfr.mono ?_
        rintro e w1 ⟨rfl, rfl⟩
        go_wp2_with fail
        go_roundw
        case rel => exact ⟨j + 1, by omega, by go_num, F1.out⟩
        case measure => simp [intOf]; omega
    · obtain rfl : j = k := by omega
      have e := HYE.out
      rw [hen] at e
      by_cases e0 : T ((hm + j) % n) = 0
      · rw [e0] at c0
        have b2 : (((0 : Nat) : Int) == 0) = true := rfl
        clear e hen e0 hF
        generalize hpe : (hm + j) % n = p at *
        have HPE := Lib.hid hpe
        clear hpe
        go_wp2_with fail
        go_ret
        exact ⟨by rw [HPE.out]; rfl, F1.out⟩
      · rw [if_neg e0] at e
        have hfr := HFR.out _ hF _ hpl e0
        have b2 : ((T ((hm + j) % n) : Int) == 0) = false := by rw [beq_eq_false_iff_ne]; omega
        have b2' : (T ((hm + j) % n) == 0) = false := by rw [beq_eq_false_iff_ne]; omega
        have hge := of_decide_eq_true e
        have b3 : decide (((dst n (H (T ((hm + j) % n))) ((hm + j) % n) : Nat) : Int) < j) = true := decide_eq_true (by omega)
        have b3' := e
        clear e hen hge e0 hF
        generalize dst n (H (T ((hm + j) % n))) ((hm + j) % n) = d at *
        generalize T ((hm + j) % n) = t at *
        generalize hpe : (hm + j) % n = p at *
        have HPE := Lib.hid hpe
        clear hpe
        go_wp2_with fail
        with_reducible refine hfr.mono ?_
        rintro e w1 ⟨rfl, rfl⟩
        go_wp2_with fail
        go_ret
        exact ⟨by rw [HPE.out]; rfl, F1.out⟩
/-- What a look's end is, as Go's pair. -/
def okZ : Option Nat → Value
  | some i => .tuple #[.int .i64 i, .bool true]
  | none => .tuple #[.int .i64 0, .bool false]
set_option maxRecDepth 100000 in
theorem x_find (h : RowT w g cap n (cT T H)) (r : RZ n T H) (hn : n ≤ 65536) (x : Nat) (hx : x ≠ 0) :
    Calls Tryz.prog 118 #[.slice (some ⟨g, 0, none⟩) n cap, .int .u32 x, .int .i64 (H x)] w fun e w' => e = .returned (okZ (fndT T H n (H x) (fun z => z == x))) ∧ Fr [] w w' := by
  have h0 := r.r.n0
  have hh := r.r.hm x
  have HRT := Lib.hid (x_right h r hn)
  have HID := Lib.hid (fun V (hV : Fr [] w V) i (hi : i < n) => (show V.cell? ⟨g, i * 2, none⟩ = some (.int .u32 (T i)) from by
    have := (h.fr hV (by simp)).id hi
    rwa [cT_id] at this))
  have HH1 := Lib.hid (fun V (hV : Fr [] w V) i (hi : i < n) (e : T i ≠ 0) => (show V.cell? ⟨g, i * 2 + 1, none⟩ = some (.int .i64 (H (T i))) from by
    have := (h.fr hV (by simp)).home hi
    rwa [cT_is e] at this))
  have HFR := Lib.hid (fun V (hV : Fr [] w V) i (hi : i < n) (e : T i ≠ 0) => (show Calls Tryz.prog 202 #[.slice (some ⟨g, 0, none⟩) n cap, .int .i64 i] V fun e w' => e = .returned (.int .i64 (dst n (H (T i)) i)) ∧ w' = V from by
    have := x_far (h.fr hV (by simp)) i hi (by rw [cT_is e]; exact r.r.hm _) (by omega)
    rwa [cT_is e] at this))
  have HEN := Lib.hid (show ∀ j, endB T H n (H x + j) j = if T ((H x + j) % n) = 0 then true else decide (dst n (H (T ((H x + j) % n))) ((H x + j) % n) < j) from fun j => by
    unfold endB
    rw [farT_dst])
  obtain ⟨R, hR⟩ : ∃ R, fndT T H n (H x) (fun z => z == x) = R := ⟨_, rfl⟩
  rw [hR]
  have HR := Lib.hid (show fndS T H n (H x) (fun z => z == x) (n - 0) 0 = R from hR)
  have HUN := Lib.hid (show ∀ k, k < n → fndS T H n (H x) (fun z => z == x) (n - k) k = if endB T H n (H x + k) k = true then none else if (T ((H x + k) % n) == x) = true then some ((H x + k) % n) else fndS T H n (H x) (fun z => z == x) (n - (k + 1)) (k + 1) from fun k hk => by
    rw [show n - k = (n - (k + 1)) + 1 by omega, fndS])
  have HZ := Lib.hid (show fndS T H n (H x) (fun z => z == x) (n - n) n = none from by rw [Nat.sub_self]; rfl)
  generalize fndS T H n (H x) (fun z => z == x) = FS at *
  have hle := h.le
  have a1 : ((x : Int) == 0) = false := by rw [beq_eq_false_iff_ne]; omega
  have a1' : (x == 0) = false := by rw [beq_eq_false_iff_ne]; omega
  have a2 : decide ((H x : Int) < 0) = false := decide_eq_false (by omega)
  have a3 : decide ((n : Int) ≤ H x) = false := decide_eq_false (by omega)
  have a3' : decide (n ≤ H x) = false := decide_eq_false (by omega)
  generalize hhm : H x = hm at *
  have HHM := Lib.hid hhm
  clear h r hR hhm
  go_enter Tryz.func118, Tryz.ntmps118
  go_wp2_with fail
  with_reducible refine HRT.out.mono ?_
  rintro e w0 ⟨rfl, f0⟩
  have F0 := Lib.hid f0
  clear f0 HRT
  go_wp2_with fail
  go_loopw [8] (fun v W => ∃ j : Nat, j ≤ n ∧ v = .int .i64 j ∧ Fr [] w W ∧ Hid (FS (n - j) j = R)) (fun v _ => n - (intOf v).toNat)
  case atStart => exact ⟨0, by omega, rfl, F0.out, HR⟩
  case round =>
    clear HR F0
    obtain ⟨j, hj, rfl, hF, HRj⟩ := hrel
    have F1 := Lib.hid hF
    have g1 : (0 : Int) ≤ j := by omega
    have wj : IntKind.i64.wrap ((j : Int) + 1) = (j : Int) + 1 := IntWalk.i64_in _ (by omega)
    by_cases hlt : j < n
    · have b1 : decide ((j : Int) < n) = true := decide_eq_true (by omega)
      have b1' : decide (j < n) = true := decide_eq_true (by omega)
      have w1 : IntKind.i64.wrap ((hm : Int) + j) = (hm : Int) + j := IntWalk.i64_in _ (by omega)
      have z1 : ((n : Int) == 0) = false := by rw [beq_eq_false_iff_ne]; omega
      have z1' : (n == 0) = false := by rw [beq_eq_false_iff_ne]; omega
      have hpl : (hm + j) % n < n := Nat.mod_lt _ h0
      have w3 : ((hm : Int) + j).tmod n = ((hm + j) % n : Nat) := by
        rw [show (hm : Int) + j = ((hm + j : Nat) : Int) by omega, ← Int.ofNat_tmod]
      have w3' : ((hm : Int) + j) % n = ((hm + j) % n : Nat) := by
        rw [show (hm : Int) + j = ((hm + j : Nat) : Int) by omega, ← Int.natCast_emod]
      have w3'' : IntKind.i64.wrap (((hm + j) % n : Nat) : Int) = ((hm + j) % n : Nat) := IntWalk.i64_in _ (by omega)
      have c0 := HID.out _ hF _ hpl
      have g3 : (0 : Int) ≤ ((hm + j) % n : Nat) := by omega
      have g4 : (((hm + j) % n : Nat) : Int) < n := by omega
      have hen := HEN.out j
      have hun := HUN.out j hlt
      rw [HRj.out, hen] at hun
      by_cases e0 : T ((hm + j) % n) = 0
      · rw [if_pos e0, if_pos rfl] at hun
        subst hun
        rw [e0] at c0
        have b2 : (((0 : Nat) : Int) == 0) = true := rfl
        clear hen e0 hF HRj HUN HZ
        generalize hpe : (hm + j) % n = p at *
        have HPE := Lib.hid hpe
        clear hpe
        go_wp2_with fail
        go_ret2
        exact ⟨rfl, F1.out⟩
      · rw [if_neg e0] at hun
        have hfr := HFR.out _ hF _ hpl e0
        have c1 := HH1.out _ hF _ hpl e0
        have b2 : ((T ((hm + j) % n) : Int) == 0) = false := by rw [beq_eq_false_iff_ne]; omega
        have b2' : (T ((hm + j) % n) == 0) = false := by rw [beq_eq_false_iff_ne]; omega
        by_cases hend : dst n (H (T ((hm + j) % n))) ((hm + j) % n) < j
        · rw [decide_eq_true hend, if_pos rfl] at hun
          subst hun
          have b3 : decide (((dst n (H (T ((hm + j) % n))) ((hm + j) % n) : Nat) : Int) < j) = true := decide_eq_true (by omega)
          have b3' := decide_eq_true hend
          clear hen e0 hF HRj HUN HZ hend c1
          generalize dst n (H (T ((hm + j) % n))) ((hm + j) % n) = d at *
          generalize T ((hm + j) % n) = t at *
          generalize hpe : (hm + j) % n = p at *
          have HPE := Lib.hid hpe
          clear hpe
          go_wp2_with fail
          with_reducible refine hfr.mono ?_
          rintro e w1 ⟨rfl, rfl⟩
          go_wp2_with fail
          go_ret2
          exact ⟨rfl, F1.out⟩
        · rw [decide_eq_false hend, if_neg (by simp)] at hun
          have b3 : decide (((dst n (H (T ((hm + j) % n))) ((hm + j) % n) : Nat) : Int) < j) = false := decide_eq_false (by omega)
          have b3' := decide_eq_false hend
          by_cases hex : T ((hm + j) % n) = x
          · rw [hex, beq_self_eq_true, if_pos rfl] at hun
            subst hun
            rw [hex] at c0 c1 hfr b2 b2' b3 b3'
            rw [HHM.out] at c1 hfr b3 b3'
            have b4 : ((x : Int) == x) = true := beq_self_eq_true _
            have b5 : ((hm : Int) == hm) = true := beq_self_eq_true _
            clear hen e0 hF HRj HUN HZ hend hex
            generalize dst n hm ((hm + j) % n) = d at *
            generalize hpe : (hm + j) % n = p at *
            have HPE := Lib.hid hpe
            clear hpe
            go_wp2_with fail
            with_reducible refine hfr.mono ?_
            rintro e w1 ⟨rfl, rfl⟩
            go_wp2_with fail
            try go_quiet (fail)
            try go_wp2_with fail
            go_ret2
            exact ⟨by rw [HPE.out]; rfl, by first | exact F1.out | exact F1.out.drewN _⟩
          · have b4' : (T ((hm + j) % n) == x) = false := by rw [beq_eq_false_iff_ne]; exact hex
            have b4 : ((T ((hm + j) % n) : Int) == x) = false := by rw [beq_eq_false_iff_ne]; omega
            rw [b4', if_neg (by simp)] at hun
            have HR2 := Lib.hid hun.symm
            clear hen e0 hF HRj HUN HZ hend hex hun c1
            generalize dst n (H (T ((hm + j) % n))) ((hm + j) % n) = d at *
            generalize T ((hm + j) % n) = t at *
            generalize hpe : (hm + j) % n = p at *
            have HPE := Lib.hid hpe
            clear hpe
            go_wp2_with fail
            with_reducible refine hfr.mono ?_
            rintro e w1 ⟨rfl, rfl⟩
            go_wp2_with fail
            try go_quiet (fail)
            try go_wp2_with fail
            go_roundw
            case rel => exact ⟨j + 1, by omega, by go_num, by first | exact F1.out | exact F1.out.drewN _, HR2⟩
            case measure => simp [intOf]; omega
    · have b1 : decide ((j : Int) < n) = false := decide_eq_false (by omega)
      have b1' : decide (j < n) = false := decide_eq_false hlt
      have ej : j = n := by omega
      have hrz := HRj.out
      rw [ej, HZ.out] at hrz
      subst hrz
      clear hF hlt HRj HUN HZ ej
      go_wp2_with fail
      go_ret2
      exact ⟨rfl, F1.out⟩
end
end Go.Proofs.YtmemoopkgjgmiaaGreatDoor

/- The document's table of layer 19: Insert. -/
namespace Go.Proofs.YtmemoopkgjgmiaaGreatDoor
set_option linter.unusedVariables false
set_option linter.unusedSimpArgs false
open Go.RowKit

theorem info_cell : (Tryz.prog.info? 172).map (fun i => (i.zero, i.size, i.bytes)) = some (some (.agg #[.int .u32 0, .int .i64 0]), 2, 16) := by kernel_rfl
theorem info_cell' : ∃ i, Tryz.prog.info? 172 = some i ∧ i.zero = some (.agg #[.int .u32 0, .int .i64 0]) ∧ i.size = 2 ∧ i.bytes = 16 := by
  have h := info_cell
  cases e : Tryz.prog.info? 172 with
  | none => rw [e] at h; cases h
  | some i =>
    rw [e] at h
    simp at h
    exact ⟨i, rfl, h.1, h.2.1, h.2.2⟩
/-- A table's cells as a list. -/
def tabL (c : Nat → Nat × Nat) : Nat → List Value
  | 0 => []
  | n + 1 => tabL c n ++ [.int .u32 (c n).1, .int .i64 (c n).2]
theorem tabL_len (c : Nat → Nat × Nat) : ∀ n, (tabL c n).length = n * 2
  | 0 => rfl
  | n + 1 => by rw [tabL, List.length_append, tabL_len c n]; simp; omega
theorem tabL_get (c : Nat → Nat × Nat) : ∀ n i, i < n → (tabL c n)[i * 2]? = some (.int .u32 (c i).1) ∧ (tabL c n)[i * 2 + 1]? = some (.int .i64 (c i).2)
  | 0, i, hi => by omega
  | n + 1, i, hi => by
    rw [tabL]
    by_cases h : i < n
    · obtain ⟨h1, h2⟩ := tabL_get c n i h
      rw [List.getElem?_append_left (by rw [tabL_len]; omega), List.getElem?_append_left (by rw [tabL_len]; omega)]
      exact ⟨h1, h2⟩
    · obtain rfl : i = n := by omega
      rw [List.getElem?_append_right (by rw [tabL_len]; omega), List.getElem?_append_right (by rw [tabL_len]; omega), tabL_len, Nat.sub_self, show i * 2 + 1 - i * 2 = 1 by omega]
      exact ⟨rfl, rfl⟩
theorem tabL_one (c : Nat → Nat × Nat) : ∀ n, ∀ u ∈ tabL c n, u.oneCell' = true
  | 0, u, hu => by cases hu
  | n + 1, u, hu => by
    rw [tabL] at hu
    rcases List.mem_append.1 hu with hu | hu
    · exact tabL_one c n u hu
    · simp only [List.mem_cons, List.not_mem_nil, or_false] at hu
      rcases hu with rfl | rfl <;> rfl
theorem RowT.list {w : World} {g cap n : Nat} {c : Nat → Nat × Nat} (h : RowT w g cap n c) (j : Nat) (hj : j < n * 2) : w.cell? ⟨g, j, none⟩ = (tabL c n)[j]? := by
  have e := tabL_get c n (j / 2) (by omega)
  rcases Nat.mod_two_eq_zero_or_one j with h2 | h2
  · have hj2 : j = j / 2 * 2 := by omega
    have := h.id (i := j / 2) (by omega)
    rw [← hj2] at this e
    rw [this, e.1]
  · have hj2 : j = j / 2 * 2 + 1 := by omega
    have := h.home (i := j / 2) (by omega)
    rw [← hj2] at this e
    rw [this, e.2]
set_option maxRecDepth 100000 in
/-- A copy of a table. -/
theorem wpList_copyT {w : World} {ops : Array Oper} {rest : List Oper} {o : Oper} {a : Act} {Q : Exit → Act → World → Prop} (hgd : o.guard = none) (s x : Operand) (ho : o.op = .call { callee := .builtin .append, args := #[s, x], argTypes := #[48, 48] }) (hty : o.type = 48)
    (W0 : World) (hW : w = W0.alloc (.cells #[] 172)) (g cap n : Nat) (c : Nat → Nat × Nat) (hr : RowT W0 g cap n c) (hs : a.eval s = .slice (some ⟨W0.heap.size, 0, none⟩) 0 0) (hx : a.eval x = .slice (some ⟨g, 0, none⟩) n cap)
    (hn : n ≤ 65536) (h0 : 0 < n)
    (h : ∀ g' cap' w', RowT w' g' cap' n c → W0.heap.size ≤ g' → Fr [] W0 w' → wpList Tryz.prog ops Q rest (a.put o.dst (.slice (some ⟨g', 0, none⟩) n cap')) w') : wpList Tryz.prog ops Q (o :: rest) a w := by
  subst hW
  obtain ⟨i, hi, hz, hs0, hb⟩ := info_cell'
  refine wpList_plain hgd fun K hK => ?_
  have f0 : Fr [] W0 (W0.alloc (.cells #[] 172)) := (Fr.refl [] W0).alloc _
  have hr' := hr.fr f0 (by simp)
  have hO0 : (W0.alloc (.cells #[] 172)).ownsRow W0.heap.size 172 2 (.slice (some ⟨W0.heap.size, 0, none⟩) 0 0) 0 [] :=
    ⟨rfl, .inr ⟨_, 0, #[], rfl, Nat.le_refl _, Blk.new _ _ _, Nat.le_refl _, by unfold maxLen; omega, rfl, rfl⟩⟩
  obtain ⟨v', w', hrun, h2, h3, _, h5⟩ := run_append_own_at (P := Tryz.prog) (W0.alloc (.cells #[] 172)) W0.heap.size 48 48 172 i (.agg #[.int .u32 0, .int .i64 0]) 2 16 Tryz.underlying48 hi hz hs0 hb rfl (by decide) (.slice (some ⟨W0.heap.size, 0, none⟩) 0 0) 0 [] hO0 ⟨g, 0, none⟩ n cap (tabL c n) (tabL_len c n) (fun j u hu => by
    have hj := (List.getElem?_eq_some_iff.1 hu).1
    rw [tabL_len] at hj
    have hadd : (⟨g, 0, none⟩ : Addr).add j = ⟨g, j, none⟩ := by unfold Addr.add; split <;> simp_all
    rw [hadd, hr'.list j hj, hu]) (tabL_one c n) (by unfold maxLen; omega) (by omega) f0.size
  have hfr : Fr [] W0 w' := ⟨h3.os, h3.tape, h3.output, Nat.le_trans f0.size h3.size, fun k hk hn => (h3.block k (by simp; omega) (fun e => by
    injection e with e
    have e2 : W0.heap.size = k := e.symm
    omega)).trans (f0.block k hk hn)⟩
  rw [Nat.zero_add, List.nil_append] at h2
  obtain ⟨hl, ⟨_, h6⟩ | ⟨g', cap', cur, rfl, hgb, hg, r1, r2, r3, r4⟩⟩ := h2
  · omega
  have hRT : RowT w' g' cap' n c := ⟨cur, hg, r3, r1, fun i hi => by
    obtain ⟨e1, e2⟩ := tabL_get c n i hi
    rw [← r4, List.getElem?_take_of_lt (by omega), Array.getElem?_toList] at e1 e2
    exact ⟨e1, e2⟩⟩
  have hK' := hK _ _ (h g' cap' w' hRT hgb hfr)
  unfold Oper.wp execOp
  simp only [ho, hty, resolve, invoke, builtin, Sem.run_bind, Sem.run_pure, Result.andThen_ok, List.map_toArray, List.map_cons, List.map_nil, hs, hx, hrun]
  exact hK'
theorem RowT.frozen {w : World} {g cap n : Nat} {c : Nat → Nat × Nat} (h : RowT w g cap n c) (i : Nat) : w.frozen? ⟨g, i, none⟩ = false := by
  obtain ⟨cur, hb, _⟩ := h
  exact hb.frozen i
/-- One cell is written. -/
theorem RowT.set {w : World} {g cap n : Nat} {c : Nat → Nat × Nat} (h : RowT w g cap n c) (p : Nat) (hp : p < n) (a b : Nat) : RowT (w.setCells g (p * 2) [.int .u32 a, .int .i64 b]) g cap n (up c p (a, b)) := by
  obtain ⟨cur, hb, h1, h2, hc⟩ := h
  have e := hb.setCells [.int .u32 a, .int .i64 b] (p * 2)
  refine ⟨_, e, ?_, h2, fun i hi => ?_⟩
  · simp [laid, h1]
  · simp only [laid]
    by_cases hip : i = p
    · subst hip
      rw [up_same]
      constructor
      · rw [Array.getElem?_setIfInBounds_ne (by omega), Array.getElem?_setIfInBounds_self_of_lt (by omega)]
      · rw [Array.getElem?_setIfInBounds_self_of_lt (by simp; omega)]
    · rw [up_ne _ _ hip]
      obtain ⟨e1, e2⟩ := hc i hi
      constructor
      · rw [Array.getElem?_setIfInBounds_ne (by omega), Array.getElem?_setIfInBounds_ne (by omega), e1]
      · rw [Array.getElem?_setIfInBounds_ne (by omega), Array.getElem?_setIfInBounds_ne (by omega), e2]
end Go.Proofs.YtmemoopkgjgmiaaGreatDoor

/- The document's table of layer 19: Insert. -/
namespace Go.Proofs.YtmemoopkgjgmiaaGreatDoor
set_option linter.unusedVariables false
set_option linter.unusedSimpArgs false
open Go.RowKit

/-- The table while it is inserted: so many cells from `a` on are new. -/
def dI (X H T : Nat → Nat) (n a : Nat) : Nat → Nat → Nat × Nat
  | 0 => cT T H
  | j + 1 => up (dI X H T n a j) ((a + j) % n) (X ((a + j) % n), H (X ((a + j) % n)))
theorem dI_at {X H T : Nat → Nat} {n a : Nat} : ∀ j i, j ≤ n → i < n → dI X H T n a j ((a + i) % n) = if i < j then (X ((a + i) % n), H (X ((a + i) % n))) else cT T H ((a + i) % n)
  | 0, i, _, _ => by rw [if_neg (by omega)]; rfl
  | j + 1, i, hj, hi => by
    rw [dI]
    by_cases h : i = j
    · subst h
      rw [up_same, if_pos (by omega)]
    · rw [up_ne _ _ (fun e => h (mod_inj hi (by omega) e)), dI_at j i (by omega) hi]
      by_cases h2 : i < j
      · rw [if_pos h2, if_pos (by omega)]
      · rw [if_neg h2, if_neg (by omega)]
section
variable {w W : World} {g cap n : Nat} {c : Nat → Nat × Nat} {T H : Nat → Nat} {x k gg : Nat}
theorem InsQ.xs (Q : InsQ n T H (H x) k gg x) (i : Nat) (hi : i ≤ gg) : insX T n (H x + k) gg x ((H x + k + i) % n) ≠ 0 := by
  rcases i with _ | i
  · rw [Nat.add_zero, Q.at0]; exact Q.x0
  · rw [Q.at1 (by omega)]; exact Q.gap1 (by omega)
theorem InsQ.dI_end (Q : InsQ n T H (H x) k gg x) : ∀ i, i < n → cT (insX T n (H x + k) gg x) H i = dI (insX T n (H x + k) gg x) H T n (H x + k) (gg + 1) i := fun s hs => by
  obtain ⟨i, hi, rfl⟩ := mod_ex (n := n) (H x + k) hs
  rw [dI_at (gg + 1) i (by have := Q.gn; omega) hi]
  by_cases h : i < gg + 1
  · rw [if_pos h, cT_is (Q.xs i (by omega))]
  · rw [if_neg h]
    have := Q.at2 (s := (H x + k + i) % n) (fun j hj e => by
      have := mod_inj hi (show j < n by have := Q.gn; omega) e
      omega)
    unfold cT
    rw [this]
theorem InsQ.dI_here (Q : InsQ n T H (H x) k gg x) (j : Nat) (hj : j ≤ gg) : dI (insX T n (H x + k) gg x) H T n (H x + k) j ((H x + k + j) % n) = cT T H ((H x + k + j) % n) := by
  rw [dI_at j j (by have := Q.gn; omega) (by have := Q.gn; omega), if_neg (by omega)]
set_option maxRecDepth 100000 in
/-- It is refused. -/
theorem x_ins_no (h : RowT w g cap n (cT T H)) (r : RZ n T H) (hn : n ≤ 65536) (x : Nat) (hx : x ≠ 0) (b : Bool) (hb : if b then InT n T x else ¬ InT n T x ∧ ∀ s, s < n → T s ≠ 0) :
    Calls Tryz.prog 108 #[.slice (some ⟨g, 0, none⟩) n cap, .int .u32 x, .int .i64 (H x)] w fun e w' => e = .returned (.tuple #[.slice none 0 0, .int .i64 (if b then 8 else 5)]) ∧ Fr [] w w' := by
  have h0 := r.r.n0
  have hh := r.r.hm x
  have HRT := Lib.hid (x_right h r hn)
  have HH1 := Lib.hid (fun V (hV : Fr [] w V) => x_has (h.fr hV (by simp)) x b (by
    cases b with
    | true =>
      refine ⟨fun _ => ?_, fun _ => rfl⟩
      obtain ⟨s, hs, e⟩ := hb
      exact ⟨s, hs, by rw [cT_id]; exact e⟩
    | false =>
      refine ⟨fun h => Bool.noConfusion h, fun ⟨s, hs, e⟩ => ?_⟩
      rw [cT_id] at e
      exact absurd ⟨s, hs, e⟩ hb.1) (by omega))
  have HH0 := Lib.hid (fun V (hV : Fr [] w V) (e : b = false) => (show Calls Tryz.prog 205 #[.slice (some ⟨g, 0, none⟩) n cap, .int .u32 0] V fun e w' => e = .returned (.bool false) ∧ Fr [] V w' from x_has (h.fr hV (by simp)) 0 false (by
    subst e
    refine ⟨fun h => Bool.noConfusion h, fun ⟨s, hs, e⟩ => ?_⟩
    rw [cT_id] at e
    exact absurd e (hb.2 s hs)) (by omega)))
  have hle := h.le
  have a1 : ((x : Int) == 0) = false := by rw [beq_eq_false_iff_ne]; omega
  have a1' : (x == 0) = false := by rw [beq_eq_false_iff_ne]; omega
  have a2 : decide ((H x : Int) < 0) = false := decide_eq_false (by omega)
  have a3 : decide ((n : Int) ≤ H x) = false := decide_eq_false (by omega)
  have a3' : decide (n ≤ H x) = false := decide_eq_false (by omega)
  generalize H x = hm at *
  clear h r hb
  go_enter Tryz.func108, Tryz.ntmps108
  go_wp2_with fail
  with_reducible refine HRT.out.mono ?_
  rintro e w1 ⟨rfl, f1⟩
  have F1 := Lib.hid f1
  clear f1 HRT
  go_wp2_with fail
  with_reducible refine (HH1.out _ F1.out).mono ?_
  rintro e w2 ⟨rfl, f2⟩
  have F2 := Lib.hid (F1.out.trans f2)
  clear f2
  cases b with
  | true =>
    go_wp2_with fail
    go_ret2
    exact ⟨rfl, F2.out⟩
  | false =>
    have h0 := HH0.out _ F2.out rfl
    go_wp2_with fail
    with_reducible refine h0.mono ?_
    rintro e w3 ⟨rfl, f3⟩
    have F3 := Lib.hid (F2.out.trans f3)
    clear f3
    go_wp2_with fail
    go_ret2
    exact ⟨rfl, F3.out⟩
set_option maxRecDepth 100000 in
set_option maxHeartbeats 4000000 in
theorem x_ins (h : RowT w g cap n (cT T H)) (r : RZ n T H) (hn : n ≤ 65536) (Q : InsQ n T H (H x) k gg x) :
    Calls Tryz.prog 108 #[.slice (some ⟨g, 0, none⟩) n cap, .int .u32 x, .int .i64 (H x)] w fun e w' => ∃ g' cap', e = .returned (.tuple #[.slice (some ⟨g', 0, none⟩) n cap', .int .i64 0]) ∧ w.heap.size ≤ g' ∧ RowT w' g' cap' n (cT (insX T n (H x + k) gg x) H) ∧ Fr [] w w' := by
  have h0 := r.r.n0
  have hh := r.r.hm x
  have hx := Q.x0
  have HRT := Lib.hid (x_right h r hn)
  have HH1 := Lib.hid (fun V (hV : Fr [] w V) => x_has (h.fr hV (by simp)) x false ⟨fun h => Bool.noConfusion h, fun ⟨s, hs, e⟩ => by
    rw [cT_id] at e
    exact absurd e (Q.nx s hs)⟩ (by omega))
  have HH0 := Lib.hid (fun V (hV : Fr [] w V) => (show Calls Tryz.prog 205 #[.slice (some ⟨g, 0, none⟩) n cap, .int .u32 0] V fun e w' => e = .returned (.bool true) ∧ Fr [] V w' from x_has (h.fr hV (by simp)) 0 true ⟨fun _ => ⟨_, Nat.mod_lt _ h0, by rw [cT_id]; exact Q.gap0⟩, fun _ => rfl⟩ (by omega)))
  have HPL := Lib.hid (fun V (hV : Fr [] w V) => (x_place (h.fr hV (by simp)) r hn (H x) hh k Q.kn Q.ip.no Q.ip.yes))
  have HROW := Lib.hid (fun V (hV : Fr [] w V) => h.fr hV (by simp))
  have hle := h.le
  have a1 : ((x : Int) == 0) = false := by rw [beq_eq_false_iff_ne]; omega
  have a1' : (x == 0) = false := by rw [beq_eq_false_iff_ne]; omega
  have a2 : decide ((H x : Int) < 0) = false := decide_eq_false (by omega)
  have a3 : decide ((n : Int) ≤ H x) = false := decide_eq_false (by omega)
  have a3' : decide (n ≤ H x) = false := decide_eq_false (by omega)
  have HX0 := Lib.hid (show insX T n (H x + k) gg x ((H x + k) % n) = x from Q.at0)
  have HX1 := Lib.hid (fun j (hj : j < gg) => Q.at1 hj)
  have HG1 := Lib.hid (fun j (hj : j < gg) => Q.gap1 hj)
  have HG0 := Lib.hid Q.gap0
  have HHE := Lib.hid Q.dI_here
  have HEN := Lib.hid Q.dI_end
  have hgn := Q.gn
  have hkn := Q.kn
  generalize hX : insX T n (H x + k) gg x = X at *
  generalize hhm : H x = hm at *
  have HHM := Lib.hid hhm
  clear h r Q hX hhm
  go_enter Tryz.func108, Tryz.ntmps108
  go_wp2_with fail
  with_reducible refine HRT.out.mono ?_
  rintro e w1 ⟨rfl, f1⟩
  have F1 := Lib.hid f1
  clear f1 HRT
  go_wp2_with fail
  with_reducible refine (HH1.out _ F1.out).mono ?_
  rintro e w2 ⟨rfl, f2⟩
  have F2 := Lib.hid (F1.out.trans f2)
  clear f2 HH1
  go_wp2_with fail
  with_reducible refine (HH0.out _ F2.out).mono ?_
  rintro e w3 ⟨rfl, f3⟩
  have F3 := Lib.hid (F2.out.trans f3)
  have R3 := Lib.hid (HROW.out _ F3.out)
  clear f3 HH0
  go_wp2_with (first | (at_builtin; refine wpList_copyT rfl _ _ rfl rfl w3 rfl g cap n _ R3.out rfl rfl hn h0 ?_; intro g1 q1 w4 hr4 hg4 f4) | fail)
  have F4 := Lib.hid (F3.out.trans f4)
  have R4 := Lib.hid hr4
  have hwg : w.heap.size ≤ g1 := Nat.le_trans F3.out.size hg4
  have hgl4 := hr4.lt
  clear hr4 f4 R3 hg4
  go_wp2_with fail
  with_reducible refine (HPL.out _ F4.out).mono ?_
  rintro e w5 ⟨rfl, f5⟩
  have hsz5 : w4.heap.size ≤ w5.heap.size := f5.size
  have R5 := Lib.hid ((R4.out.fr f5 (by simp)).fr ((Fr.refl [] w5).alloc (.cells #[.int .u32 x, .int .i64 hm] 172)) (by simp))
  have F5 := Lib.hid ((F4.out.trans f5).alloc (.cells #[.int .u32 x, .int .i64 hm] 172))
  have B5 := Lib.hid (show Blk (w5.alloc (.cells #[.int .u32 x, .int .i64 hm] 172)) w5.heap.size 172 #[.int .u32 (X ((hm + k + 0) % n)), .int .i64 (H (X ((hm + k + 0) % n)))] from by
    rw [Nat.add_zero, HX0.out, HHM.out]
    exact Blk.new w5 _ _)
  have hwb : w.heap.size ≤ w5.heap.size := (F4.out.trans f5).size
  have hgb : g1 < w5.heap.size := by omega
  clear f5 HPL R4 HROW HX0
  go_wp2_with fail
  generalize w5.heap.size = nb at *
  generalize w5.alloc (.cells #[.int .u32 x, .int .i64 hm] 172) = w6 at *
  have HD := Lib.hid (show ∀ j, j < n → dst n ((hm + k) % n) ((hm + k + j) % n) = j from fun j hj => by
    have := dst_home (n := n) (h := (hm + k) % n) (k := j) (Nat.mod_lt _ h0) hj
    rwa [Nat.mod_add_mod] at this)
  have START := Lib.hid (And.intro F5.out (And.intro R5.out B5.out))
  clear F5 R5 B5 F1 F2 F3 F4
  go_loopw [9] (fun v W => ∃ j : Nat, j ≤ gg ∧ v = .int .i64 ((hm + k + j) % n : Nat) ∧ Fr [] w W ∧ RowT W g1 q1 n (dI X H T n (hm + k) j) ∧ Blk W nb 172 #[.int .u32 (X ((hm + k + j) % n)), .int .i64 (H (X ((hm + k + j) % n)))]) (fun v _ => gg - dst n ((hm + k) % n) (intOf v).toNat)
  case atStart => exact ⟨0, by omega, by rw [Nat.add_zero, Int.natCast_emod, Int.natCast_add], START.out.1, START.out.2.1, START.out.2.2⟩
  case round =>
    clear START
    obtain ⟨j, hj, rfl, hF, hR, hB⟩ := hrel
    have hpl : (hm + k + j) % n < n := Nat.mod_lt _ h0
    have hsu := mod_succ (n := n) (hm + k) j
    have hhe := HHE.out j hj
    have c0 := hR.id hpl
    have c1 := hR.home hpl
    rw [hhe] at c0 c1
    rw [cT_id] at c0
    have d0 := hB.cell 0
    have d1 := hB.cell 1
    simp only [List.getElem?_toArray, List.getElem?_cons_zero, List.getElem?_cons_succ] at d0 d1
    by_cases hjg : j < gg
    · have ht := HG1.out j hjg
      have hx1 := HX1.out j hjg
      rw [cT_is ht] at c1
      have hq2 : (hm + k + (j + 1)) % n < n := Nat.mod_lt _ h0
      have b2 : ((T ((hm + k + j) % n) : Int) != 0) = true := by simp; omega
      have b2' : (T ((hm + k + j) % n) != 0) = true := by simp; omega
      have hdj := HD.out j (by omega)
      have hdj2 := HD.out (j + 1) (by omega)
      have w1 : IntKind.i64.wrap (((hm + k + j) % n : Nat) + 1 : Int) = (((hm + k + j) % n : Nat) : Int) + 1 := IntWalk.i64_in _ (by omega)
      have w3 : ((((hm + k + j) % n : Nat) : Int) + 1).tmod n = ((hm + k + (j + 1)) % n : Nat) := by
        rw [show (((hm + k + j) % n : Nat) : Int) + 1 = (((hm + k + j) % n + 1 : Nat) : Int) by omega, ← Int.ofNat_tmod, hsu]
      have w3' : ((((hm + k + j) % n : Nat) : Int) + 1) % n = ((hm + k + (j + 1)) % n : Nat) := by
        rw [show (((hm + k + j) % n : Nat) : Int) + 1 = (((hm + k + j) % n + 1 : Nat) : Int) by omega, ← Int.natCast_emod, hsu]
      have w3'' : IntKind.i64.wrap (((hm + k + (j + 1)) % n : Nat) : Int) = ((hm + k + (j + 1)) % n : Nat) := IntWalk.i64_in _ (by omega)
      have z1 : ((n : Int) == 0) = false := by rw [beq_eq_false_iff_ne]; omega
      have z1' : (n == 0) = false := by rw [beq_eq_false_iff_ne]; omega
      have HST := Lib.hid (show dI X H T n (hm + k) (j + 1) = up (dI X H T n (hm + k) j) ((hm + k + j) % n) (X ((hm + k + j) % n), H (X ((hm + k + j) % n))) from rfl)
      have HX := Lib.hid hx1
      clear hhe hx1 ht hsu
      generalize T ((hm + k + j) % n) = t at *
      generalize X ((hm + k + j) % n) = xj at *
      generalize hpe : (hm + k + j) % n = p at *
      generalize hpe2 : (hm + k + (j + 1)) % n = p2 at *
      have HP2 := Lib.hid hpe2
      clear hpe hpe2
      have g3 : (0 : Int) ≤ p := by omega
      have g4 : (p : Int) < n := by omega
      have hq := hR.le
      have hlr := hR.lt
      have hlb := hB.lt
      have hBa := hB.alloc (.cells #[.int .u32 t, .int .i64 (H t)] 172)
      have d0a := hBa.cell 0
      have d1a := hBa.cell 1
      simp only [List.getElem?_toArray, List.getElem?_cons_zero, List.getElem?_cons_succ] at d0a d1a
      have hne : nb ≠ g1 := by omega
      have hR2 : RowT (wr.setCells g1 (p * 2) [.int .u32 xj, .int .i64 (H xj)]) g1 q1 n (dI X H T n (hm + k) (j + 1)) := by rw [HST.out]; exact hR.set p hpl xj (H xj)
      have hB2 := hB.setCells_far hne [.int .u32 xj, .int .i64 (H xj)] (p * 2)
      have hB2a := hB2.alloc (.cells #[.int .u32 t, .int .i64 (H t)] 172)
      have hB3 := (hB2.setCells [.int .u32 t, .int .i64 (H t)] 0).alloc (.cells #[.int .u32 t, .int .i64 (H t)] 172)
      have HB4 := Lib.hid (show Blk ((((((wr.setCell ⟨g1, p * 2, none⟩ (.int .u32 xj)).setCell ⟨g1, p * 2 + 1, none⟩ (.int .i64 (H xj))).setCell ⟨nb, 0, none⟩ (.int .u32 t)).setCell ⟨nb, 1, none⟩ (.int .i64 (H t)))).alloc (.cells #[.int .u32 t, .int .i64 (H t)] 172)) nb 172 #[.int .u32 t, .int .i64 (H t)] from hB3)
      have HR4 := Lib.hid (show RowT ((((((wr.setCell ⟨g1, p * 2, none⟩ (.int .u32 xj)).setCell ⟨g1, p * 2 + 1, none⟩ (.int .i64 (H xj))).setCell ⟨nb, 0, none⟩ (.int .u32 t)).setCell ⟨nb, 1, none⟩ (.int .i64 (H t)))).alloc (.cells #[.int .u32 t, .int .i64 (H t)] 172)) g1 q1 n (dI X H T n (hm + k) (j + 1)) from (hR2.fr ((Fr.refl [nb] _).setCells (.inl (by simp)) [.int .u32 t, .int .i64 (H t)] 0) (by simp; omega)).fr ((Fr.refl [] _).alloc _) (by simp))
      have HF4 := Lib.hid (show Fr [] w ((((((wr.setCell ⟨g1, p * 2, none⟩ (.int .u32 xj)).setCell ⟨g1, p * 2 + 1, none⟩ (.int .i64 (H xj))).setCell ⟨nb, 0, none⟩ (.int .u32 t)).setCell ⟨nb, 1, none⟩ (.int .i64 (H t)))).alloc (.cells #[.int .u32 t, .int .i64 (H t)] 172)) from ((hF.setCells (.inr hwg) [.int .u32 xj, .int .i64 (H xj)] (p * 2)).setCells (.inr hwb) [.int .u32 t, .int .i64 (H t)] 0).alloc _)
      obtain ⟨cur, hcb, hc1, hc2, hc3⟩ := hR
      have zf1 := hcb.frozen (p * 2)
      have zf2 := hcb.frozen (p * 2 + 1)
      have zf3 := hB.frozen 0
      have zf4 := hB.frozen 1
      clear hB hF hcb hc1 hc2 hc3 hBa hR2 hB2 hB2a hB3
      simp only at c1
      go_wp2_with fail
      go_roundw
      case rel => exact ⟨j + 1, by omega, by rw [HP2.out], HF4.out, HR4.out, by rw [HP2.out, HX.out]; exact HB4.out⟩
      case measure =>
        simp only [intOf, Int.toNat_natCast]
        rw [hdj, hdj2]
        omega
    · obtain rfl : j = gg := by omega
      have e0 := HG0.out
      rw [e0] at c0
      rw [cT_no e0] at c1
      have b2 : (((0 : Nat) : Int) != 0) = false := rfl
      have HR2 := Lib.hid (show RowT (wr.setCells g1 ((hm + k + j) % n * 2) [.int .u32 (X ((hm + k + j) % n)), .int .i64 (H (X ((hm + k + j) % n)))]) g1 q1 n (cT X H) from
        (show RowT _ g1 q1 n (dI X H T n (hm + k) (j + 1)) from hR.set ((hm + k + j) % n) hpl (X ((hm + k + j) % n)) (H (X ((hm + k + j) % n)))).congr HEN.out)
      have HF2 := Lib.hid (hF.setCells (.inr hwg) [.int .u32 (X ((hm + k + j) % n)), .int .i64 (H (X ((hm + k + j) % n)))] ((hm + k + j) % n * 2))
      have g3 : (0 : Int) ≤ ((hm + k + j) % n : Nat) := by omega
      have g4 : (((hm + k + j) % n : Nat) : Int) < n := by omega
      have hq := hR.le
      obtain ⟨cur, hcb, _⟩ := hR
      have zf1 := hcb.frozen ((hm + k + j) % n * 2)
      have zf2 := hcb.frozen ((hm + k + j) % n * 2 + 1)
      clear hhe hsu hB hF hcb e0 HG1 HX1 HHE HG0
      generalize X ((hm + k + j) % n) = xj at *
      generalize (hm + k + j) % n = p at *
      go_wp2_with fail
      go_ret2
      exact ⟨g1, q1, rfl, hwg, HR2.out, HF2.out⟩
end
end Go.Proofs.YtmemoopkgjgmiaaGreatDoor

/- The document's table of layer 19: Delete. -/
namespace Go.Proofs.YtmemoopkgjgmiaaGreatDoor
set_option linter.unusedVariables false
set_option linter.unusedSimpArgs false
open Go.RowKit

section
variable {w W : World} {g cap n : Nat} {c : Nat → Nat × Nat} {T H : Nat → Nat} {x k gg : Nat}
theorem cT_up0 (T H : Nat → Nat) (p i : Nat) : cT (up T p 0) H i = up (cT T H) p (0, 0) i := by
  by_cases h : i = p
  · subst h
    rw [up_same, cT_no (up_same _ _ _)]
  · rw [up_ne _ _ h]
    unfold cT
    rw [up_ne _ _ h]
/-- One cell is moved back. -/
theorem cT_back (T H : Nat → Nat) (p s : Nat) (hne : s ≠ p) (h0 : T s ≠ 0) (i : Nat) : cT (up (up T p (T s)) s 0) H i = up (up (cT (up T p 0) H) p (T s, H (T s))) s (0, 0) i := by
  by_cases h : i = s
  · subst h
    rw [up_same, cT_no (up_same _ _ _)]
  · rw [up_ne _ _ h]
    by_cases h2 : i = p
    · subst h2
      rw [up_same, cT_is (by rw [up_ne _ _ h, up_same]; exact h0), up_ne _ _ h, up_same]
    · rw [up_ne _ _ h2]
      unfold cT
      rw [up_ne _ _ h, up_ne _ _ h2, up_ne _ _ h2]
set_option maxRecDepth 100000 in
theorem x_del_no (h : RowT w g cap n (cT T H)) (r : RZ n T H) (hn : n ≤ 65536) (x : Nat) (hx : x ≠ 0) (hf : fndT T H n (H x) (fun z => z == x) = none) :
    Calls Tryz.prog 103 #[.slice (some ⟨g, 0, none⟩) n cap, .int .u32 x, .int .i64 (H x)] w fun e w' => e = .returned (.tuple #[.slice none 0 0, .int .i64 7]) ∧ Fr [] w w' := by
  have h0 := r.r.n0
  have hh := r.r.hm x
  have HRT := Lib.hid (x_right h r hn)
  have HFD := Lib.hid (fun V (hV : Fr [] w V) => (show Calls Tryz.prog 118 #[.slice (some ⟨g, 0, none⟩) n cap, .int .u32 x, .int .i64 (H x)] V fun e w' => e = .returned (.tuple #[.int .i64 0, .bool false]) ∧ Fr [] V w' from by
    have := x_find (h.fr hV (by simp)) r hn x hx
    rwa [hf] at this))
  have hle := h.le
  have a1 : ((x : Int) == 0) = false := by rw [beq_eq_false_iff_ne]; omega
  have a1' : (x == 0) = false := by rw [beq_eq_false_iff_ne]; omega
  have a2 : decide ((H x : Int) < 0) = false := decide_eq_false (by omega)
  have a3 : decide ((n : Int) ≤ H x) = false := decide_eq_false (by omega)
  have a3' : decide (n ≤ H x) = false := decide_eq_false (by omega)
  generalize H x = hm at *
  clear h r hf
  go_enter Tryz.func103, Tryz.ntmps103
  go_wp2_with fail
  with_reducible refine HRT.out.mono ?_
  rintro e w1 ⟨rfl, f1⟩
  have F1 := Lib.hid f1
  clear f1 HRT
  go_wp2_with fail
  with_reducible refine (HFD.out _ F1.out).mono ?_
  rintro e w2 ⟨rfl, f2⟩
  have F2 := Lib.hid (F1.out.trans f2)
  clear f2
  go_wp2_with fail
  go_ret2
  exact ⟨rfl, F2.out⟩
set_option maxRecDepth 100000 in
set_option maxHeartbeats 4000000 in
theorem x_del (h : RowT w g cap n (cT T H)) (r : RZ n T H) (hn : n ≤ 65536) (x : Nat) (hx : x ≠ 0) (i0 : Nat) (hi0 : i0 < n) (hf : fndT T H n (H x) (fun z => z == x) = some i0) :
    Calls Tryz.prog 103 #[.slice (some ⟨g, 0, none⟩) n cap, .int .u32 x, .int .i64 (H x)] w fun e w' => ∃ g' cap', e = .returned (.tuple #[.slice (some ⟨g', 0, none⟩) n cap', .int .i64 0]) ∧ w.heap.size ≤ g' ∧ RowT w' g' cap' n (cT (dlS H n (n - 1) i0 T) H) ∧ Fr [] w w' := by
  have h0 := r.r.n0
  have hh := r.r.hm x
  have HRT := Lib.hid (x_right h r hn)
  have HFD := Lib.hid (fun V (hV : Fr [] w V) => (show Calls Tryz.prog 118 #[.slice (some ⟨g, 0, none⟩) n cap, .int .u32 x, .int .i64 (H x)] V fun e w' => e = .returned (.tuple #[.int .i64 i0, .bool true]) ∧ Fr [] V w' from by
    have := x_find (h.fr hV (by simp)) r hn x hx
    rwa [hf] at this))
  have HROW := Lib.hid (fun V (hV : Fr [] w V) => h.fr hV (by simp))
  have HHM := Lib.hid r.r.hm
  have hle := h.le
  have a1 : ((x : Int) == 0) = false := by rw [beq_eq_false_iff_ne]; omega
  have a1' : (x == 0) = false := by rw [beq_eq_false_iff_ne]; omega
  have a2 : decide ((H x : Int) < 0) = false := decide_eq_false (by omega)
  have a3 : decide ((n : Int) ≤ H x) = false := decide_eq_false (by omega)
  have a3' : decide (n ≤ H x) = false := decide_eq_false (by omega)
  obtain ⟨R, hR⟩ : ∃ R, dlS H n (n - 1) i0 T = R := ⟨_, rfl⟩
  rw [hR]
  have HR := Lib.hid hR
  generalize H x = hm at *
  clear h r hf hR
  go_enter Tryz.func103, Tryz.ntmps103
  go_wp2_with fail
  with_reducible refine HRT.out.mono ?_
  rintro e w1 ⟨rfl, f1⟩
  have F1 := Lib.hid f1
  clear f1 HRT
  go_wp2_with fail
  with_reducible refine (HFD.out _ F1.out).mono ?_
  rintro e w2 ⟨rfl, f2⟩
  have F2 := Lib.hid (F1.out.trans f2)
  have R2 := Lib.hid (HROW.out _ F2.out)
  clear f2 HFD
  have n1 : (0 : Int) ≤ i0 := by omega
  have n2 : (i0 : Int) < n := by omega
  go_wp2_with (first | (at_builtin; refine wpList_copyT rfl _ _ rfl rfl w2 rfl g cap n _ R2.out rfl rfl hn h0 ?_; intro g1 q1 w4 hr4 hg4 f4; have zc0 := hr4.id hi0; have zc1 := hr4.home hi0; have zf1 := hr4.frozen (i0 * 2); have zf2 := hr4.frozen (i0 * 2 + 1); have hq1 := hr4.le) | fail)
  have hwg : w.heap.size ≤ g1 := Nat.le_trans F2.out.size hg4
  have START := Lib.hid (show Fr [] w (w4.setCells g1 (i0 * 2) [.int .u32 0, .int .i64 0]) ∧ RowT (w4.setCells g1 (i0 * 2) [.int .u32 0, .int .i64 0]) g1 q1 n (cT (up T i0 0) H) from
    ⟨(F2.out.trans f4).setCells (.inr hwg) [.int .u32 0, .int .i64 0] (i0 * 2), (hr4.set i0 hi0 0 0).congr (fun i _ => cT_up0 T H i0 i)⟩)
  clear hr4 f4 R2 F1 F2 HROW hg4 zc0 zc1 zf1 zf2
  go_loopw [8, 11] (fun v i W => ∃ (f P : Nat) (Tc : Nat → Nat), f + 1 ≤ n ∧ v = .int .i64 (P % n : Nat) ∧ i = .int .i64 (n - f : Nat) ∧ Fr [] w W ∧ RowT W g1 q1 n (cT (up Tc (P % n) 0) H) ∧ Hid (dlS H n f P Tc = R)) (fun _ i _ => n - (intOf i).toNat)
  case atStart => exact ⟨n - 1, i0, T, by omega, by rw [Nat.mod_eq_of_lt hi0], by rw [show n - (n - 1) = 1 by omega]; rfl, START.out.1, by rw [Nat.mod_eq_of_lt hi0]; exact START.out.2, HR⟩
  case round =>
    clear START HR
    obtain ⟨f, P, Tc, hf, rfl, rfl, hF, hR, HRf⟩ := hrel
    cases f with
    | zero =>
      have b1 : decide (((n - 0 : Nat) : Int) < n) = false := decide_eq_false (by omega)
      have b1' : decide (n < n) = false := decide_eq_false (by omega)
      have hrz := HRf.out
      unfold dlS at hrz
      rw [hrz] at hR
      have F1 := Lib.hid hF
      have R1 := Lib.hid hR
      clear hF hR HRf hrz
      go_wp2_with fail
      go_ret2
      exact ⟨g1, q1, rfl, hwg, R1.out, F1.out⟩
    | succ f =>
      obtain ⟨d, hd⟩ : ∃ d, n - (f + 1) = d := ⟨_, rfl⟩
      have hd2 : n - f = d + 1 := by omega
      rw [hd]
      have b1 : decide ((d : Int) < n) = true := decide_eq_true (by omega)
      have b1' : decide (d < n) = true := decide_eq_true (by omega)
      have wd : IntKind.i64.wrap ((d : Int) + 1) = (d : Int) + 1 := IntWalk.i64_in _ (by omega)
      have hpl : P % n < n := Nat.mod_lt _ h0
      have hsl : (P + 1) % n < n := Nat.mod_lt _ h0
      have hsu : (P % n + 1) % n = (P + 1) % n := Nat.mod_add_mod _ _ _
      have hne : (P + 1) % n ≠ P % n := fun e => by
        have := mod_inj (n := n) (a := P) (i := 1) (j := 0) (by omega) h0 e
        omega
      have hun := HRf.out
      unfold dlS at hun
      rw [farT_dst] at hun
      have w1 : IntKind.i64.wrap (((P % n : Nat) : Int) + 1) = ((P % n : Nat) : Int) + 1 := IntWalk.i64_in _ (by omega)
      have w3 : (((P % n : Nat) : Int) + 1).tmod n = ((P + 1) % n : Nat) := by
        rw [show ((P % n : Nat) : Int) + 1 = ((P % n + 1 : Nat) : Int) by omega, ← Int.ofNat_tmod, hsu]
      have w3' : (((P % n : Nat) : Int) + 1) % n = ((P + 1) % n : Nat) := by
        rw [show ((P % n : Nat) : Int) + 1 = ((P % n + 1 : Nat) : Int) by omega, ← Int.natCast_emod, hsu]
      have w3'' : IntKind.i64.wrap (((P + 1) % n : Nat) : Int) = ((P + 1) % n : Nat) := IntWalk.i64_in _ (by omega)
      have z1 : ((n : Int) == 0) = false := by rw [beq_eq_false_iff_ne]; omega
      have z1' : (n == 0) = false := by rw [beq_eq_false_iff_ne]; omega
      have HP1 := Lib.hid (show ∀ P2, (P + 1) % n = P2 → (P + 1) % n = P2 from fun _ h => h)
      have hid := hR.id hsl
      rw [cT_id, up_ne _ _ hne] at hid
      by_cases e0 : Tc ((P + 1) % n) = 0
      · rw [if_pos (.inl e0)] at hun
        rw [hun] at hR
        have b2 : (((0 : Nat) : Int) == 0) = true := rfl
        have F1 := Lib.hid hF
        have R1 := Lib.hid hR
        have n3 : (0 : Int) ≤ ((P + 1) % n : Nat) := by omega
        have n4 : (((P + 1) % n : Nat) : Int) < n := by omega
        rw [e0] at hid
        clear hF hR HRf hun hsu hne e0
        generalize (P + 1) % n = s at *
        generalize P % n = p at *
        go_wp2_with fail
        go_ret2
        exact ⟨g1, q1, rfl, hwg, R1.out, F1.out⟩
      · have hcs : cT (up Tc (P % n) 0) H ((P + 1) % n) = (Tc ((P + 1) % n), H (Tc ((P + 1) % n))) := by
          rw [cT_is (by rw [up_ne _ _ hne]; exact e0), up_ne _ _ hne]
        have hfr := x_far hR ((P + 1) % n) hsl (by rw [hcs]; exact HHM.out _) (by omega)
        have hho := hR.home hsl
        rw [hcs] at hfr hho
        simp only at hfr hho
        have b2 : ((Tc ((P + 1) % n) : Int) == 0) = false := by rw [beq_eq_false_iff_ne]; omega
        have b2' : (Tc ((P + 1) % n) == 0) = false := by rw [beq_eq_false_iff_ne]; omega
        have n3 : (0 : Int) ≤ ((P + 1) % n : Nat) := by omega
        have n4 : (((P + 1) % n : Nat) : Int) < n := by omega
        by_cases hd0 : dst n (H (Tc ((P + 1) % n))) ((P + 1) % n) = 0
        · rw [if_pos (.inr hd0)] at hun
          rw [hun] at hR
          rw [hd0] at hfr
          have b3 : (((0 : Nat) : Int) == 0) = true := rfl
          have F1 := Lib.hid hF
          have R1 := Lib.hid hR
          clear hF hR HRf hun hsu hne e0 hcs hd0 hho
          generalize Tc ((P + 1) % n) = t at *
          generalize (P + 1) % n = s at *
          generalize P % n = p at *
          go_wp2_with fail
          with_reducible refine hfr.mono ?_
          rintro e w1 ⟨rfl, rfl⟩
          go_wp2_with fail
          go_ret2
          exact ⟨g1, q1, rfl, hwg, R1.out, F1.out⟩
        · rw [if_neg (by rintro (e | e) <;> contradiction)] at hun
          have HR2 := Lib.hid hun
          have b3 : ((dst n (H (Tc ((P + 1) % n))) ((P + 1) % n) : Int) == 0) = false := by rw [beq_eq_false_iff_ne]; omega
          have b3' : (dst n (H (Tc ((P + 1) % n))) ((P + 1) % n) == 0) = false := by rw [beq_eq_false_iff_ne]; exact hd0
          have hR2 := ((hR.set (P % n) hpl (Tc ((P + 1) % n)) (H (Tc ((P + 1) % n)))).set ((P + 1) % n) hsl 0 0).congr (fun i _ => cT_back Tc H (P % n) ((P + 1) % n) hne e0 i)
          have R2 := Lib.hid hR2
          have F2 := Lib.hid ((hF.setCells (.inr hwg) [.int .u32 (Tc ((P + 1) % n)), .int .i64 (H (Tc ((P + 1) % n)))] (P % n * 2)).setCells (.inr hwg) [.int .u32 0, .int .i64 0] ((P + 1) % n * 2))
          have n5 : (0 : Int) ≤ (P % n : Nat) := by omega
          have n6 : ((P % n : Nat) : Int) < n := by omega
          have zc0 := hR.id hpl
          have zc1 := hR.home hpl
          have zf1 := hR.frozen (P % n * 2)
          have zf2 := hR.frozen (P % n * 2 + 1)
          have zf3 := hR.frozen ((P + 1) % n * 2)
          have zf4 := hR.frozen ((P + 1) % n * 2 + 1)
          have hRs := hR.set (P % n) hpl (Tc ((P + 1) % n)) (H (Tc ((P + 1) % n)))
          have zd0 := hRs.id hsl
          have zd1 := hRs.home hsl
          clear hF hR HRf hun hsu e0 hcs hd0 hR2 hRs
          generalize Tc ((P + 1) % n) = t at *
          generalize dst n (H t) ((P + 1) % n) = dd at *
          generalize hse : (P + 1) % n = s at *
          generalize hpe : P % n = p at *
          have HSE := Lib.hid hse
          clear hse hpe
          go_wp2_with fail
          with_reducible refine hfr.mono ?_
          rintro e w1 ⟨rfl, rfl⟩
          go_wp2_with fail
          go_roundw
          case rel => exact ⟨f, P + 1, up Tc p t, by omega, by rw [HSE.out], by rw [hd2]; go_num, F2.out, by rw [HSE.out]; exact R2.out, HR2⟩
          case measure => simp [intOf]; omega
end
end Go.Proofs.YtmemoopkgjgmiaaGreatDoor

/- The document's index of layer 20: a new one, where a block is, its home. -/
namespace Go.Proofs.YtmemoopkgjgmiaaGreatDoor
set_option linter.unusedVariables false
set_option linter.unusedSimpArgs false
open Go.RowKit

/-- make([]T, n), T of any number of cells, at whatever world. -/
theorem run_make_rowsX {P : Program} (t e : TypeId) (z : Value) (k bytes : Nat) (ht : P.underlying t = some (.slice e)) (hinfo : (P.info? e).map (fun i => (i.zero, i.size, i.bytes)) = some (some z, k, bytes))
    (kl kc : IntKind) (n : Nat) (hbytes : bytes * n ≤ 281474976710656) (h63 : n ≤ 9223372036854775807) (w : World) :
    (Instr.makeSlice t (.int kl (n : Int)) (.int kc (n : Int))).run P w = .ok (.slice (some ⟨w.heap.size, 0, none⟩) n n) (w.alloc (.cells (madeCells z.cells (n * k)) e)) := by
  obtain ⟨i, hi, hzz⟩ := Option.map_eq_some_iff.1 hinfo
  simp only [Prod.mk.injEq] at hzz
  obtain ⟨hz, hs, hb⟩ := hzz
  have hb' : (i.bytes : Int) * (n : Int) ≤ 281474976710656 := by
    have h : ((i.bytes * n : Nat) : Int) ≤ 281474976710656 := by rw [hb]; omega
    rwa [Int.natCast_mul] at h
  have hr := run_make (P := P) w t e i z ht hi hz kl kc n n (by omega) (Int.le_refl _) hb' (by omega)
  simp only [Int.toNat_natCast, hs] at hr
  exact hr
/-- The document's index: its table, and its blocks. -/
structure IsX (W : World) (px base : Nat) (T H : Nat → Nat) (L : List RB) (gt ct : Nat) (ad : Option Addr) (cap : Nat) : Prop where
  st : Blk W px 50 #[.slice (some ⟨gt, 0, none⟩) 224 ct, .slice ad L.length cap]
  t : RowT W gt ct 224 (cT T H)
  b : Rk W base (.slice ad L.length cap) L
  px : base ≤ px
  gt : base ≤ gt
  len : L.length ≤ 1000000
section
variable {w W : World} {px base gt ct cap : Nat} {T H : Nat → Nat} {L : List RB} {ad : Option Addr} {S : List Nat}
theorem IsX.fr (h : IsX W px base T H L gt ct ad cap) {W' : World} (hf : Fr S W W') (hS : ∀ k ∈ S, k < base) : IsX W' px base T H L gt ct ad cap :=
  ⟨h.st.fr hf (fun hm => by have := hS _ hm; have := h.px; omega), h.t.fr hf (fun hm => by have := hS _ hm; have := h.gt; omega), h.b.frq hf hS, h.px, h.gt, h.len⟩
theorem IsX.fr0 (h : IsX W px base T H L gt ct ad cap) {W' : World} (hf : Fr [] W W') : IsX W' px base T H L gt ct ad cap := h.fr hf (by simp)
theorem IsX.row (h : IsX W px base T H L gt ct ad cap) (h0 : 0 < L.length) : ∃ g, ad = some ⟨g, 0, none⟩ ∧ base ≤ g ∧ RowK W g cap L := by
  obtain ⟨ad', cap', e, hr⟩ := h.b.row
  injection e with e1 _ e2
  subst e1 e2
  exact hr h0
theorem IsX.c0 (h : IsX W px base T H L gt ct ad cap) : W.cell? ⟨px, 0, none⟩ = some (.slice (some ⟨gt, 0, none⟩) 224 ct) := by simpa using h.st.cell 0
theorem IsX.c1 (h : IsX W px base T H L gt ct ad cap) : W.cell? ⟨px, 1, none⟩ = some (.slice ad L.length cap) := by simpa using h.st.cell 1
set_option maxRecDepth 100000 in
theorem x_new20 (w : World) : Calls Tryz.prog 18 #[.int .i64 224] w fun e w' => ∃ px gt, e = .returned (.pointer (some ⟨px, 0, none⟩)) ∧ (∀ H, IsX w' px w.heap.size (fun _ => 0) H [] gt 224 none 0) ∧ Fr [] w w' := by
  have hmk : ∀ w, (Instr.makeSlice 48 (.int .i64 224) (.int .i64 224)).run Tryz.prog w = .ok (.slice (some ⟨w.heap.size, 0, none⟩) 224 224) (w.alloc (.cells (madeCells #[.int .u32 0, .int .i64 0] (224 * 2)) 172)) := fun w =>
    run_make_rowsX 48 172 (.agg #[.int .u32 0, .int .i64 0]) 2 16 Tryz.underlying48 info_cell .i64 .i64 224 (by decide) (by decide) w
  have HC := Lib.hid (show ∀ i, i < 224 → (madeCells #[.int .u32 0, .int .i64 0] (224 * 2))[i * 2]? = some (.int .u32 0) ∧ (madeCells #[.int .u32 0, .int .i64 0] (224 * 2))[i * 2 + 1]? = some (.int .i64 0) ∧ (madeCells #[.int .u32 0, .int .i64 0] (224 * 2)).size = 448 from fun i hi => by
    have h1 : i * 2 < 448 := by omega
    have h2 : i * 2 + 1 < 448 := by omega
    have e1 : i * 2 % 2 = 0 := by omega
    have e2 : (i * 2 + 1) % 2 = 1 := by omega
    refine ⟨?_, ?_, by simp [madeCells]⟩
    · simp [madeCells, h1, e1]
    · simp [madeCells, h2, e2])
  generalize madeCells #[.int .u32 0, .int .i64 0] (224 * 2) = mc at *
  go_enter Tryz.func18, Tryz.ntmps18
  go_wp2_with fail
  go_ret
  have b0 := (Blk.new w 172 mc).alloc (.cells #[.slice (some ⟨w.heap.size, 0, none⟩) 224 224, .slice none 0 0] 50)
  have b1 := Blk.new (w.alloc (.cells mc 172)) 50 #[.slice (some ⟨w.heap.size, 0, none⟩) 224 224, .slice none 0 0]
  rw [World.size_alloc] at b1
  exact ⟨_, _, rfl, fun H => ⟨b1, ⟨mc, b0, (HC.out 0 (by decide)).2.2, by decide, fun i hi => by
    rw [cT_no rfl]
    exact ⟨(HC.out i hi).1, (HC.out i hi).2.1⟩⟩, Rk.nil _ _, by omega, Nat.le_refl _, by simp⟩, ((Fr.refl [] w).alloc _).alloc _⟩
set_option maxRecDepth 100000 in
/-- Where a block is: the first at that place. -/
theorem x_fnd (h : IsX w px base T H L gt ct ad cap) (x : Int) (r : Nat) (hr : r ≤ L.length) (hno : ∀ j (hj : j < L.length), j < r → L[j].at_ ≠ x) (hyes : ∀ hj : r < L.length, L[r].at_ = x) :
    Calls Tryz.prog 102 #[.pointer (some ⟨px, 0, none⟩), .int .i64 x] w fun e w' => e = .returned (.int .i64 (if r < L.length then (r : Int) else -1)) ∧ Fr [] w w' := by
  have hlen := h.len
  have HV := Lib.hid (fun V (hV : Fr [] w V) => (h.fr0 hV).c1)
  have HC := Lib.hid (fun V (hV : Fr [] w V) j (hj : j < L.length) => (show ∃ g, ad = some ⟨g, 0, none⟩ ∧ L.length ≤ cap ∧ V.cell? ⟨g, j * 6, none⟩ = some (.int .i64 L[j].at_) from by
    obtain ⟨g, e, _, hr⟩ := h.row (by omega)
    exact ⟨g, e, hr.le, (hr.fr hV (by simp)).cell j hj 0 (by decide)⟩))
  have HNO := Lib.hid hno
  have HYE := Lib.hid hyes
  obtain ⟨n, hn⟩ : ∃ n, L.length = n := ⟨_, rfl⟩
  have HN := Lib.hid hn
  rw [hn] at hlen HV hr ⊢
  obtain ⟨R, hR⟩ : ∃ R : Int, (if r < n then (r : Int) else -1) = R := ⟨_, rfl⟩
  rw [hR]
  have HRR := Lib.hid hR
  clear h hno hyes hn hR
  go_enter Tryz.func102, Tryz.ntmps102
  go_wp2_with fail
  go_loopw [5] (fun v W => ∃ j : Nat, j ≤ r ∧ v = .int .i64 j ∧ Fr [] w W) (fun v _ => r - (intOf v).toNat)
  case atStart => exact ⟨0, by omega, rfl, Fr.refl _ _⟩
  case round =>
    obtain ⟨j, hj, rfl, hF⟩ := hrel
    have F1 := Lib.hid hF
    have c1 := HV.out _ hF
    have n1 : (0 : Int) ≤ j := by omega
    have wj : IntKind.i64.wrap ((j : Int) + 1) = (j : Int) + 1 := IntWalk.i64_in _ (by omega)
    by_cases hlt : j < n
    · have b1 : decide ((j : Int) < n) = true := decide_eq_true (by omega)
      have b1' : decide (j < n) = true := decide_eq_true hlt
      have n2 : (j : Int) < n := by omega
      have hlt' : j < L.length := by rw [HN.out]; exact hlt
      obtain ⟨g, rfl, hcap, c2⟩ := HC.out _ hF j hlt'
      rw [HN.out] at hcap
      by_cases hjr : j < r
      · have b2 : (L[j].at_ == x) = false := by rw [beq_eq_false_iff_ne]; exact HNO.out j hlt' hjr
        generalize L[j].at_ = y at *
        clear hF HC
        go_wp2_with fail
        go_roundw
        case rel => exact ⟨j + 1, by omega, by go_num, F1.out⟩
        case measure => simp [intOf]; omega
      · obtain rfl : j = r := by omega
        have e := HYE.out hlt'
        rw [e] at c2
        have b2 : (x == x) = true := beq_self_eq_true _
        have HIF := Lib.hid (show R = j from by rw [← HRR.out, if_pos hlt])
        clear hF HC e hjr hlt
        go_wp2_with fail
        go_ret
        exact ⟨by rw [HIF.out]; rfl, F1.out⟩
    · have b1 : decide ((j : Int) < n) = false := decide_eq_false (by omega)
      have b1' : decide (j < n) = false := decide_eq_false hlt
      have HIF := Lib.hid (show R = -1 from by rw [← HRR.out, if_neg (by omega)])
      clear hF hlt HC
      go_wp2_with fail
      go_ret
      exact ⟨by rw [HIF.out]; rfl, F1.out⟩
theorem xhome0 (w : World) (x n : Nat) (hx : x < 4294967296) (hn : 0 < n) (hn2 : n ≤ 1048576) : Calls Tryz.prog 203 #[.int .u32 x, .int .i64 n] w fun e w' => e = .returned (.int .i64 (x % n : Nat)) ∧ Fr [] w w' := by
  have h1 : Int.tmod (x : Int) (n : Int) = (x % n : Nat) := by rw [Int.ofNat_tmod]
  have hm : x % n < n := Nat.mod_lt _ hn
  have h2 : IntKind.i64.wrap ((x % n : Nat) : Int) = (x % n : Nat) := IntWalk.i64_in _ (by omega)
  have h2' : IntKind.u64.wrap ((x % n : Nat) : Int) = (x % n : Nat) := IntWalk.u64_in _ (by omega)
  have h5 : IntKind.u64.wrap (x : Int) = x := IntWalk.u64_in _ (by omega)
  have h6 : IntKind.u64.wrap (n : Int) = n := IntWalk.u64_in _ (by omega)
  have h3 : (n : Int) ≠ 0 := by omega
  have h4 : n ≠ 0 := by omega
  have b1 : decide ((n : Int) < 1) = false := by simp; omega
  have b2 : decide (n < 1) = false := by simp; omega
  generalize x % n = r at *
  go_enter Tryz.func203, Tryz.ntmps203
  go_wp2_with fail
  go_ret
  exact ⟨rfl, Fr.refl _ _⟩
set_option maxRecDepth 100000 in
theorem x_home (h : IsX w px base T H L gt ct ad cap) (ba : Int) (bd : Bool) (bm bt : Nat) (s : ByteArray) (bh : Nat) (hh : bh < 4294967296) :
    Calls Tryz.prog 104 #[.pointer (some ⟨px, 0, none⟩), .agg #[.int .i64 ba, .bool bd, .int .u32 bm, .int .u16 bt, .string s, .int .u32 bh]] w fun e w' => e = .returned (.int .i64 (bh % 224 : Nat)) ∧ Fr [] w w' := by
  have HV := Lib.hid (fun V (hV : Fr [] w V) => (h.fr0 hV).c0)
  have HM := Lib.hid (fun V => (show Calls Tryz.prog 203 #[.int .u32 bh, .int .i64 224] V fun e w' => e = .returned (.int .i64 (bh % 224 : Nat)) ∧ Fr [] V w' from xhome0 V bh 224 hh (by decide) (by decide)))
  have B0 := Lib.hid (Blk.new w 33 #[.int .i64 ba, .bool bd, .int .u32 bm, .int .u16 bt, .string s, .int .u32 bh])
  have F0 := Lib.hid ((Fr.refl [] w).alloc (.cells #[.int .i64 ba, .bool bd, .int .u32 bm, .int .u16 bt, .string s, .int .u32 bh] 33))
  clear h
  go_enter Tryz.func104, Tryz.ntmps104
  go_wp2_with fail
  generalize w.alloc (.cells #[.int .i64 ba, .bool bd, .int .u32 bm, .int .u16 bt, .string s, .int .u32 bh] 33) = w0 at *
  have hY := And.intro (HV.out _ F0.out.drew) (show w0.drew.cell? ⟨w.heap.size, 5, none⟩ = some (.int .u32 bh) from B0.out.drew.cell 5)
  refine wp_region_held_drew (S := fun W => W.cell? ⟨px, 0, none⟩ = some (.slice (some ⟨gt, 0, none⟩) 224 ct) ∧ W.cell? ⟨w.heap.size, 5, none⟩ = some (.int .u32 bh)) (by kernel_rfl) (hY) (fun yH => ?_)
  refine tkY 0 yH (h := ?_)
  refine tkY 1 yH (h := ?_)
  refine tkY 2 yH (h := ?_)
  refine tkY 3 yH (h := ?_)
  refine tkY 4 yH (h := ?_)
  refine tkY 5 yH (h := ?_)
  refine tkY 6 yH (h := ?_)
  refine wpAnyH_ready (rs := [7]) (by kernel_rfl) (by simp) ?_
  refine AllReadyH.cons (o := ?ooa7) ?hia7 (fun K hK => ?hca7) AllReadyH.nil
  case hia7 => (simp only [List.getElem?_toArray, List.getElem?_cons_zero, List.getElem?_cons_succ]; rfl)
  go_simp
  with_reducible refine (HM.out _).mono ?_
  rintro e w1 ⟨rfl, f1⟩
  have F1 := Lib.hid (F0.out.drew.trans f1)
  have hY := And.intro (HV.out _ F1.out) (show w1.cell? ⟨w.heap.size, 5, none⟩ = some (.int .u32 bh) from (B0.out.drew.fr f1 (by simp)).cell 5)
  clear f1
  go_wp2_with fail
  refine hK.out _ _ (hY) (fun yH => ?_)
  clear hK K
  try simp only [Act.put, List.setIfInBounds_toArray, List.set_cons_zero, List.set_cons_succ]
  refine tkY 8 yH (h := ?_)
  refine wpAnyH_done (by kernel_rfl) ?_ _
  try simp only [Act.put, List.getElem_toArray, List.getElem_cons_zero, List.getElem_cons_succ, List.setIfInBounds_toArray, List.set_cons_zero, List.set_cons_succ]
  go_wp2_with fail
  go_ret
  exact ⟨rfl, F1.out⟩
end
end Go.Proofs.YtmemoopkgjgmiaaGreatDoor

/- The document's index of layer 20: Insert, Delete, Place. -/
namespace Go.Proofs.YtmemoopkgjgmiaaGreatDoor
set_option linter.unusedVariables false
set_option linter.unusedSimpArgs false
open Go.RowKit

section
variable {w W : World} {px base gt ct cap : Nat} {T T' H : Nat → Nat} {L : List RB} {ad : Option Addr} {S : List Nat}
theorem IsX.setT (h : IsX W px base T H L gt ct ad cap) {g' c' : Nat} (hr : RowT W g' c' 224 (cT T' H)) (hg : base ≤ g') : IsX (W.setCell ⟨px, 0, none⟩ (.slice (some ⟨g', 0, none⟩) 224 c')) px base T' H L g' c' ad cap := by
  have f : Fr [px] W (W.setCell ⟨px, 0, none⟩ (.slice (some ⟨g', 0, none⟩) 224 c')) := (Fr.refl [px] W).setCell (p := ⟨px, 0, none⟩) (.inl (by simp)) _
  refine ⟨h.st.set 0 _, hr.fr f ?_, h.b.fr f (fun k hk e => ?_), h.px, hg, h.len⟩
  · obtain ⟨cur, hb, _⟩ := hr
    intro hm
    simp at hm
    exact hb.ne_ h.st (by decide) hm
  · simp at hk
    subst hk
    obtain ⟨_, ⟨e2, _⟩ | ⟨g, cap', cur, e2, _, hb, _⟩⟩ := h.b
    · rw [e2] at e
      cases e
    · injection e2 with e2 _ e3
      rw [e2] at e
      have e4 : g = k := by simpa [Value.ownBlock] using e
      subst e4
      exact Blk.ne_ (w := W) hb h.st (by decide) rfl
/-- A block that is the first at its place. -/
structure At20 (H : Nat → Nat) (L : List RB) (x p : Nat) : Prop where
  lt : p < L.length
  at_ : L[p].at_ = x
  no : ∀ j (hj : j < L.length), j < p → L[j].at_ ≠ x
  hm : L[p].hs % 224 = H x
  hs : L[p].hs < 4294967296
  x0 : x ≠ 0
  x1 : x < 1048576
theorem IsX.cells (h : IsX w px base T H L gt ct ad cap) {p : Nat} (hp : p < L.length) : ∃ g, ad = some ⟨g, 0, none⟩ ∧ L.length ≤ cap ∧ ∀ V, Fr [] w V → (V.cell? ⟨px, 0, none⟩ = some (.slice (some ⟨gt, 0, none⟩) 224 ct) ∧ V.cell? ⟨px, 1, none⟩ = some (.slice (some ⟨g, 0, none⟩) L.length cap) ∧
    V.cell? ⟨g, p * 6, none⟩ = some (.int .i64 L[p].at_) ∧ V.cell? ⟨g, p * 6 + 1, none⟩ = some (.bool L[p].nd) ∧ V.cell? ⟨g, p * 6 + 2, none⟩ = some (.int .u32 L[p].nm) ∧ V.cell? ⟨g, p * 6 + 3, none⟩ = some (.int .u16 L[p].ty) ∧ V.cell? ⟨g, p * 6 + 4, none⟩ = some (.string (strOf L[p].lab)) ∧ V.cell? ⟨g, p * 6 + 5, none⟩ = some (.int .u32 L[p].hs)) := by
  obtain ⟨g, e, _, hr⟩ := h.row (by omega)
  subst e
  refine ⟨g, rfl, hr.le, fun V hV => ?_⟩
  have hV' := hr.fr hV (by simp)
  exact ⟨(h.fr0 hV).c0, (h.fr0 hV).c1, hV'.cell p hp 0 (by decide), hV'.cell p hp 1 (by decide), hV'.cell p hp 2 (by decide), hV'.cell p hp 3 (by decide), hV'.cell p hp 4 (by decide), hV'.cell p hp 5 (by decide)⟩
set_option maxRecDepth 100000 in
theorem x20_ins (h : IsX w px base T H L gt ct ad cap) {x p : Nat} (a : At20 H L x p) (c : Nat) (hc : c ≤ 30) (hI : ∀ V, Fr [] w V → Calls Tryz.prog 108 #[.slice (some ⟨gt, 0, none⟩) 224 ct, .int .u32 x, .int .i64 (H x)] V fun e w' => ∃ tv, e = .returned (.tuple #[tv, .int .i64 c]) ∧ Fr [] V w' ∧ (c = 0 → ∃ g' c', tv = .slice (some ⟨g', 0, none⟩) 224 c' ∧ V.heap.size ≤ g' ∧ RowT w' g' c' 224 (cT T' H)))
    (hb : base ≤ w.heap.size) : Calls Tryz.prog 23 #[.pointer (some ⟨px, 0, none⟩), .int .i64 x] w fun e w' => e = .returned (.int .i64 c) ∧ Fr [px] w w' ∧ (c ≠ 0 → IsX w' px base T H L gt ct ad cap) ∧ (c = 0 → ∃ g' c', IsX w' px base T' H L g' c' ad cap) := by
  have hpl := a.lt
  have hfnd := (show Calls Tryz.prog 102 #[.pointer (some ⟨px, 0, none⟩), .int .i64 x] w fun e w' => e = .returned (.int .i64 p) ∧ Fr [] w w' from by
    have := x_fnd h x p (by have := a.lt; omega) a.no (fun _ => a.at_)
    rwa [if_pos a.lt] at this)
  obtain ⟨g, rfl, hcap, hcc⟩ := h.cells a.lt
  have HHM := Lib.hid (fun V (hV : Fr [] w V) => (show Calls Tryz.prog 104 #[.pointer (some ⟨px, 0, none⟩), .agg #[.int .i64 x, .bool L[p].nd, .int .u32 L[p].nm, .int .u16 L[p].ty, .string (strOf L[p].lab), .int .u32 L[p].hs]] V fun e w' => e = .returned (.int .i64 (H x)) ∧ Fr [] V w' from by
    have := x_home (h.fr0 hV) x L[p].nd L[p].nm L[p].ty (strOf L[p].lab) L[p].hs a.hs
    rwa [a.hm] at this))
  have HX := Lib.hid h
  have hle := h.len
  have hx1 := a.x1
  have wx : IntKind.u32.wrap (x : Int) = x := IntWalk.u32_in _ (by omega)
  have b1 : decide ((p : Int) < 0) = false := decide_eq_false (by omega)
  have n1 : (0 : Int) ≤ p := by omega
  have DC := Lib.hid (fun V (hV : Fr [] w V) => by
    have := hcc V hV
    rw [a.at_] at this
    exact this)
  have HI := Lib.hid hI
  generalize strOf L[p].lab = s at *
  generalize L[p].nd = d at *
  generalize L[p].nm = m at *
  generalize L[p].ty = t at *
  generalize L[p].hs = hs at *
  obtain ⟨n, hn⟩ : ∃ n, L.length = n := ⟨_, rfl⟩
  rw [hn] at DC hcap hle hpl
  have n2 : (p : Int) < n := by omega
  generalize H x = hx at *
  clear h a hcc hI
  go_enter Tryz.func23, Tryz.ntmps23
  go_wp2_with fail
  with_reducible refine hfnd.mono ?_
  rintro e w1 ⟨rfl, f1⟩
  have F1 := Lib.hid f1
  clear f1 hfnd
  go_wp2_with fail
  have hY := DC.out _ F1.out.drew
  refine wp_region_held_drew (S := fun W => W.cell? ⟨px, 0, none⟩ = some (.slice (some ⟨gt, 0, none⟩) 224 ct) ∧ W.cell? ⟨px, 1, none⟩ = some (.slice (some ⟨g, 0, none⟩) n cap) ∧ W.cell? ⟨g, p * 6, none⟩ = some (.int .i64 x) ∧ W.cell? ⟨g, p * 6 + 1, none⟩ = some (.bool d) ∧ W.cell? ⟨g, p * 6 + 2, none⟩ = some (.int .u32 m) ∧ W.cell? ⟨g, p * 6 + 3, none⟩ = some (.int .u16 t) ∧ W.cell? ⟨g, p * 6 + 4, none⟩ = some (.string s) ∧ W.cell? ⟨g, p * 6 + 5, none⟩ = some (.int .u32 hs)) (by kernel_rfl) (hY) (fun yH => ?_)
  refine tkY 0 yH (h := ?_)
  refine tkY 1 yH (h := ?_)
  refine tkY 2 yH (h := ?_)
  refine tkY 3 yH (h := ?_)
  refine tkY 4 yH (h := ?_)
  refine tkY 5 yH (h := ?_)
  refine tkY 6 yH (h := ?_)
  refine tkY 7 yH (h := ?_)
  refine tkY 8 yH (h := ?_)
  refine tkY 9 yH (h := ?_)
  refine tkY 10 yH (h := ?_)
  refine tkY 11 yH (h := ?_)
  refine tkY 12 yH (h := ?_)
  refine tkY 13 yH (h := ?_)
  refine wpAnyH_ready (rs := [14]) (by kernel_rfl) (by simp) ?_
  refine AllReadyH.cons (o := ?ooa14) ?hia14 (fun K hK => ?hca14) AllReadyH.nil
  case hia14 => (simp only [List.getElem?_toArray, List.getElem?_cons_zero, List.getElem?_cons_succ]; rfl)
  go_simp
  with_reducible refine (HHM.out _ F1.out.drew).mono ?_
  rintro e w2 ⟨rfl, f2⟩
  have F2 := Lib.hid (F1.out.drew.trans f2)
  have hY := DC.out _ F2.out
  clear f2
  go_wp2_with fail
  refine hK.out _ _ (hY) (fun yH => ?_)
  clear hK K
  try simp only [Act.put, List.setIfInBounds_toArray, List.set_cons_zero, List.set_cons_succ]
  refine wpAnyH_ready (rs := [15]) (by kernel_rfl) (by simp) ?_
  refine AllReadyH.cons (o := ?ooa15) ?hia15 (fun K hK => ?hca15) AllReadyH.nil
  case hia15 => (simp only [List.getElem?_toArray, List.getElem?_cons_zero, List.getElem?_cons_succ]; rfl)
  go_simp
  with_reducible refine (HI.out _ F2.out).mono ?_
  rintro e w3 ⟨tv, rfl, f3, h3⟩
  have F3 := Lib.hid (F2.out.trans f3)
  have H3 := Lib.hid h3
  have hY := DC.out _ F3.out
  have hs3 := F2.out.size
  clear f3 h3
  go_wp2_with fail
  refine hK.out _ _ (hY) (fun yH => ?_)
  clear hK K
  try simp only [Act.put, List.setIfInBounds_toArray, List.set_cons_zero, List.set_cons_succ]
  refine tkY 16 yH (h := ?_)
  refine tkY 17 yH (h := ?_)
  refine tkY 18 yH (h := ?_)
  refine tkY 19 yH (h := ?_)
  refine tkY 20 yH (h := ?_)
  refine wpAnyH_done (by kernel_rfl) ?_ _
  try simp only [Act.put, List.getElem_toArray, List.getElem_cons_zero, List.getElem_cons_succ, List.setIfInBounds_toArray, List.set_cons_zero, List.set_cons_succ]
  by_cases hc0 : c = 0
  · subst hc0
    obtain ⟨g', c', rfl, hg', hr'⟩ := H3.out rfl
    have hX := (HX.out.fr0 F3.out).setT hr' (by omega)
    have HX2 := Lib.hid hX
    have b2 : (((0 : Nat) : Int) == 0) = true := rfl
    have zf := (HX.out.fr0 F3.out).st.frozen 0
    have z0 := (HX.out.fr0 F3.out).c0
    clear hX hr' HI HHM DC
    go_wp2_with fail
    go_ret
    exact ⟨rfl, F3.out.nil.setCell (p := ⟨px, 0, none⟩) (.inl (by simp)) _, g', c', HX2.out⟩
  · have b2 : ((c : Int) == 0) = false := by rw [beq_eq_false_iff_ne]; omega
    have b2' : (c == 0) = false := by rw [beq_eq_false_iff_ne]; omega
    clear HI HHM DC
    go_wp2_with fail
    go_ret
    exact ⟨rfl, F3.out.nil, fun _ => HX.out.fr0 F3.out, fun h => absurd h hc0⟩
set_option maxRecDepth 100000 in
theorem x20_del (h : IsX w px base T H L gt ct ad cap) {x p : Nat} (a : At20 H L x p) (c : Nat) (hc : c ≤ 30) (hI : ∀ V, Fr [] w V → Calls Tryz.prog 103 #[.slice (some ⟨gt, 0, none⟩) 224 ct, .int .u32 x, .int .i64 (H x)] V fun e w' => ∃ tv, e = .returned (.tuple #[tv, .int .i64 c]) ∧ Fr [] V w' ∧ (c = 0 → ∃ g' c', tv = .slice (some ⟨g', 0, none⟩) 224 c' ∧ V.heap.size ≤ g' ∧ RowT w' g' c' 224 (cT T' H)))
    (hb : base ≤ w.heap.size) : Calls Tryz.prog 21 #[.pointer (some ⟨px, 0, none⟩), .int .i64 x] w fun e w' => e = .returned (.int .i64 c) ∧ Fr [px] w w' ∧ (c ≠ 0 → IsX w' px base T H L gt ct ad cap) ∧ (c = 0 → ∃ g' c', IsX w' px base T' H L g' c' ad cap) := by
  have hpl := a.lt
  have hfnd := (show Calls Tryz.prog 102 #[.pointer (some ⟨px, 0, none⟩), .int .i64 x] w fun e w' => e = .returned (.int .i64 p) ∧ Fr [] w w' from by
    have := x_fnd h x p (by have := a.lt; omega) a.no (fun _ => a.at_)
    rwa [if_pos a.lt] at this)
  obtain ⟨g, rfl, hcap, hcc⟩ := h.cells a.lt
  have HHM := Lib.hid (fun V (hV : Fr [] w V) => (show Calls Tryz.prog 104 #[.pointer (some ⟨px, 0, none⟩), .agg #[.int .i64 x, .bool L[p].nd, .int .u32 L[p].nm, .int .u16 L[p].ty, .string (strOf L[p].lab), .int .u32 L[p].hs]] V fun e w' => e = .returned (.int .i64 (H x)) ∧ Fr [] V w' from by
    have := x_home (h.fr0 hV) x L[p].nd L[p].nm L[p].ty (strOf L[p].lab) L[p].hs a.hs
    rwa [a.hm] at this))
  have HX := Lib.hid h
  have hle := h.len
  have hx1 := a.x1
  have wx : IntKind.u32.wrap (x : Int) = x := IntWalk.u32_in _ (by omega)
  have b1 : decide ((p : Int) < 0) = false := decide_eq_false (by omega)
  have n1 : (0 : Int) ≤ p := by omega
  have DC := Lib.hid (fun V (hV : Fr [] w V) => by
    have := hcc V hV
    rw [a.at_] at this
    exact this)
  have HI := Lib.hid hI
  generalize strOf L[p].lab = s at *
  generalize L[p].nd = d at *
  generalize L[p].nm = m at *
  generalize L[p].ty = t at *
  generalize L[p].hs = hs at *
  obtain ⟨n, hn⟩ : ∃ n, L.length = n := ⟨_, rfl⟩
  rw [hn] at DC hcap hle hpl
  have n2 : (p : Int) < n := by omega
  generalize H x = hx at *
  clear h a hcc hI
  go_enter Tryz.func21, Tryz.ntmps21
  go_wp2_with fail
  with_reducible refine hfnd.mono ?_
  rintro e w1 ⟨rfl, f1⟩
  have F1 := Lib.hid f1
  clear f1 hfnd
  go_wp2_with fail
  have hY := DC.out _ F1.out.drew
  refine wp_region_held_drew (S := fun W => W.cell? ⟨px, 0, none⟩ = some (.slice (some ⟨gt, 0, none⟩) 224 ct) ∧ W.cell? ⟨px, 1, none⟩ = some (.slice (some ⟨g, 0, none⟩) n cap) ∧ W.cell? ⟨g, p * 6, none⟩ = some (.int .i64 x) ∧ W.cell? ⟨g, p * 6 + 1, none⟩ = some (.bool d) ∧ W.cell? ⟨g, p * 6 + 2, none⟩ = some (.int .u32 m) ∧ W.cell? ⟨g, p * 6 + 3, none⟩ = some (.int .u16 t) ∧ W.cell? ⟨g, p * 6 + 4, none⟩ = some (.string s) ∧ W.cell? ⟨g, p * 6 + 5, none⟩ = some (.int .u32 hs)) (by kernel_rfl) (hY) (fun yH => ?_)
  refine tkY 0 yH (h := ?_)
  refine tkY 1 yH (h := ?_)
  refine tkY 2 yH (h := ?_)
  refine tkY 3 yH (h := ?_)
  refine tkY 4 yH (h := ?_)
  refine tkY 5 yH (h := ?_)
  refine tkY 6 yH (h := ?_)
  refine tkY 7 yH (h := ?_)
  refine tkY 8 yH (h := ?_)
  refine tkY 9 yH (h := ?_)
  refine tkY 10 yH (h := ?_)
  refine tkY 11 yH (h := ?_)
  refine tkY 12 yH (h := ?_)
  refine tkY 13 yH (h := ?_)
  refine wpAnyH_ready (rs := [14]) (by kernel_rfl) (by simp) ?_
  refine AllReadyH.cons (o := ?ooa14) ?hia14 (fun K hK => ?hca14) AllReadyH.nil
  case hia14 => (simp only [List.getElem?_toArray, List.getElem?_cons_zero, List.getElem?_cons_succ]; rfl)
  go_simp
  with_reducible refine (HHM.out _ F1.out.drew).mono ?_
  rintro e w2 ⟨rfl, f2⟩
  have F2 := Lib.hid (F1.out.drew.trans f2)
  have hY := DC.out _ F2.out
  clear f2
  go_wp2_with fail
  refine hK.out _ _ (hY) (fun yH => ?_)
  clear hK K
  try simp only [Act.put, List.setIfInBounds_toArray, List.set_cons_zero, List.set_cons_succ]
  refine wpAnyH_ready (rs := [15]) (by kernel_rfl) (by simp) ?_
  refine AllReadyH.cons (o := ?ooa15) ?hia15 (fun K hK => ?hca15) AllReadyH.nil
  case hia15 => (simp only [List.getElem?_toArray, List.getElem?_cons_zero, List.getElem?_cons_succ]; rfl)
  go_simp
  with_reducible refine (HI.out _ F2.out).mono ?_
  rintro e w3 ⟨tv, rfl, f3, h3⟩
  have F3 := Lib.hid (F2.out.trans f3)
  have H3 := Lib.hid h3
  have hY := DC.out _ F3.out
  have hs3 := F2.out.size
  clear f3 h3
  go_wp2_with fail
  refine hK.out _ _ (hY) (fun yH => ?_)
  clear hK K
  try simp only [Act.put, List.setIfInBounds_toArray, List.set_cons_zero, List.set_cons_succ]
  refine tkY 16 yH (h := ?_)
  refine tkY 17 yH (h := ?_)
  refine tkY 18 yH (h := ?_)
  refine tkY 19 yH (h := ?_)
  refine tkY 20 yH (h := ?_)
  refine wpAnyH_done (by kernel_rfl) ?_ _
  try simp only [Act.put, List.getElem_toArray, List.getElem_cons_zero, List.getElem_cons_succ, List.setIfInBounds_toArray, List.set_cons_zero, List.set_cons_succ]
  by_cases hc0 : c = 0
  · subst hc0
    obtain ⟨g', c', rfl, hg', hr'⟩ := H3.out rfl
    have hX := (HX.out.fr0 F3.out).setT hr' (by omega)
    have HX2 := Lib.hid hX
    have b2 : (((0 : Nat) : Int) == 0) = true := rfl
    have zf := (HX.out.fr0 F3.out).st.frozen 0
    have z0 := (HX.out.fr0 F3.out).c0
    clear hX hr' HI HHM DC
    go_wp2_with fail
    go_ret
    exact ⟨rfl, F3.out.nil.setCell (p := ⟨px, 0, none⟩) (.inl (by simp)) _, g', c', HX2.out⟩
  · have b2 : ((c : Int) == 0) = false := by rw [beq_eq_false_iff_ne]; omega
    have b2' : (c == 0) = false := by rw [beq_eq_false_iff_ne]; omega
    clear HI HHM DC
    go_wp2_with fail
    go_ret
    exact ⟨rfl, F3.out.nil, fun _ => HX.out.fr0 F3.out, fun h => absurd h hc0⟩
set_option maxRecDepth 100000 in
theorem x20_place (h : IsX w px base T H L gt ct ad cap) (r : RZ 224 T H) {x p : Nat} (a : At20 H L x p) :
    Calls Tryz.prog 31 #[.pointer (some ⟨px, 0, none⟩), .int .i64 x] w fun e w' => e = .returned (okZ (fndT T H 224 (H x) (fun z => z == x))) ∧ Fr [] w w' := by
  have hpl := a.lt
  have hfnd := (show Calls Tryz.prog 102 #[.pointer (some ⟨px, 0, none⟩), .int .i64 x] w fun e w' => e = .returned (.int .i64 p) ∧ Fr [] w w' from by
    have := x_fnd h x p (by have := a.lt; omega) a.no (fun _ => a.at_)
    rwa [if_pos a.lt] at this)
  obtain ⟨g, rfl, hcap, hcc⟩ := h.cells a.lt
  have HHM := Lib.hid (fun V (hV : Fr [] w V) => (show Calls Tryz.prog 104 #[.pointer (some ⟨px, 0, none⟩), .agg #[.int .i64 x, .bool L[p].nd, .int .u32 L[p].nm, .int .u16 L[p].ty, .string (strOf L[p].lab), .int .u32 L[p].hs]] V fun e w' => e = .returned (.int .i64 (H x)) ∧ Fr [] V w' from by
    have := x_home (h.fr0 hV) x L[p].nd L[p].nm L[p].ty (strOf L[p].lab) L[p].hs a.hs
    rwa [a.hm] at this))
  have HX := Lib.hid h
  have hle := h.len
  have hx1 := a.x1
  have wx : IntKind.u32.wrap (x : Int) = x := IntWalk.u32_in _ (by omega)
  have b1 : decide ((p : Int) < 0) = false := decide_eq_false (by omega)
  have n1 : (0 : Int) ≤ p := by omega
  have DC := Lib.hid (fun V (hV : Fr [] w V) => by
    have := hcc V hV
    rw [a.at_] at this
    exact this)
  obtain ⟨q1, q2, hq⟩ : ∃ q1 q2, okZ (fndT T H 224 (H x) (fun z => z == x)) = .tuple #[q1, q2] := by
    cases fndT T H 224 (H x) (fun z => z == x) with
    | some i => exact ⟨_, _, rfl⟩
    | none => exact ⟨_, _, rfl⟩
  have HI := Lib.hid (fun V (hV : Fr [] w V) => (show Calls Tryz.prog 118 #[.slice (some ⟨gt, 0, none⟩) 224 ct, .int .u32 x, .int .i64 (H x)] V fun e w' => e = .returned (.tuple #[q1, q2]) ∧ Fr [] V w' from by
    have := x_find (h.fr0 hV).t r (by decide) x a.x0
    rwa [hq] at this))
  rw [hq]
  generalize strOf L[p].lab = s at *
  generalize L[p].nd = d at *
  generalize L[p].nm = m at *
  generalize L[p].ty = t at *
  generalize L[p].hs = hs at *
  obtain ⟨n, hn⟩ : ∃ n, L.length = n := ⟨_, rfl⟩
  rw [hn] at DC hcap hle hpl
  have n2 : (p : Int) < n := by omega
  generalize H x = hx at *
  clear h a hcc hq
  go_enter Tryz.func31, Tryz.ntmps31
  go_wp2_with fail
  with_reducible refine hfnd.mono ?_
  rintro e w1 ⟨rfl, f1⟩
  have F1 := Lib.hid f1
  clear f1 hfnd
  go_wp2_with fail
  have hY := DC.out _ F1.out.drew
  refine wp_region_held_drew (S := fun W => W.cell? ⟨px, 0, none⟩ = some (.slice (some ⟨gt, 0, none⟩) 224 ct) ∧ W.cell? ⟨px, 1, none⟩ = some (.slice (some ⟨g, 0, none⟩) n cap) ∧ W.cell? ⟨g, p * 6, none⟩ = some (.int .i64 x) ∧ W.cell? ⟨g, p * 6 + 1, none⟩ = some (.bool d) ∧ W.cell? ⟨g, p * 6 + 2, none⟩ = some (.int .u32 m) ∧ W.cell? ⟨g, p * 6 + 3, none⟩ = some (.int .u16 t) ∧ W.cell? ⟨g, p * 6 + 4, none⟩ = some (.string s) ∧ W.cell? ⟨g, p * 6 + 5, none⟩ = some (.int .u32 hs)) (by kernel_rfl) (hY) (fun yH => ?_)
  refine tkY 0 yH (h := ?_)
  refine tkY 1 yH (h := ?_)
  refine tkY 2 yH (h := ?_)
  refine tkY 3 yH (h := ?_)
  refine tkY 4 yH (h := ?_)
  refine tkY 5 yH (h := ?_)
  refine tkY 6 yH (h := ?_)
  refine tkY 7 yH (h := ?_)
  refine tkY 8 yH (h := ?_)
  refine tkY 9 yH (h := ?_)
  refine tkY 10 yH (h := ?_)
  refine tkY 11 yH (h := ?_)
  refine tkY 12 yH (h := ?_)
  refine tkY 13 yH (h := ?_)
  refine wpAnyH_ready (rs := [14]) (by kernel_rfl) (by simp) ?_
  refine AllReadyH.cons (o := ?ooa14) ?hia14 (fun K hK => ?hca14) AllReadyH.nil
  case hia14 => (simp only [List.getElem?_toArray, List.getElem?_cons_zero, List.getElem?_cons_succ]; rfl)
  go_simp
  with_reducible refine (HHM.out _ F1.out.drew).mono ?_
  rintro e w2 ⟨rfl, f2⟩
  have F2 := Lib.hid (F1.out.drew.trans f2)
  have hY := DC.out _ F2.out
  clear f2
  go_wp2_with fail
  refine hK.out _ _ (hY) (fun yH => ?_)
  clear hK K
  try simp only [Act.put, List.setIfInBounds_toArray, List.set_cons_zero, List.set_cons_succ]
  refine wpAnyH_ready (rs := [15]) (by kernel_rfl) (by simp) ?_
  refine AllReadyH.cons (o := ?ooa15) ?hia15 (fun K hK => ?hca15) AllReadyH.nil
  case hia15 => (simp only [List.getElem?_toArray, List.getElem?_cons_zero, List.getElem?_cons_succ]; rfl)
  go_simp
  with_reducible refine (HI.out _ F2.out).mono ?_
  rintro e w3 ⟨rfl, f3⟩
  have F3 := Lib.hid (F2.out.trans f3)
  have hY := DC.out _ F3.out
  clear f3
  go_wp2_with fail
  refine hK.out _ _ (hY) (fun yH => ?_)
  clear hK K
  try simp only [Act.put, List.setIfInBounds_toArray, List.set_cons_zero, List.set_cons_succ]
  refine tkY 16 yH (h := ?_)
  refine tkY 17 yH (h := ?_)
  refine tkY 18 yH (h := ?_)
  refine tkY 19 yH (h := ?_)
  refine wpAnyH_done (by kernel_rfl) ?_ _
  try simp only [Act.put, List.getElem_toArray, List.getElem_cons_zero, List.getElem_cons_succ, List.setIfInBounds_toArray, List.set_cons_zero, List.set_cons_succ]
  go_wp2_with fail
  go_ret2
  exact ⟨rfl, F3.out⟩
end
end Go.Proofs.YtmemoopkgjgmiaaGreatDoor

/- The document's index of layer 20: Move. -/
namespace Go.Proofs.YtmemoopkgjgmiaaGreatDoor
set_option linter.unusedVariables false
set_option linter.unusedSimpArgs false
open Go.RowKit

section
variable {w W : World} {px base gt ct cap n g : Nat} {c : Nat → Nat × Nat} {T T' H : Nat → Nat} {L : List RB} {ad : Option Addr} {S : List Nat}
theorem RowT.setId (h : RowT w g cap n c) (p : Nat) (hp : p < n) (a : Nat) : RowT (w.setCell ⟨g, p * 2, none⟩ (.int .u32 a)) g cap n (up c p (a, (c p).2)) := by
  obtain ⟨cur, hb, h1, h2, hc⟩ := h
  refine ⟨_, hb.set (p * 2) (.int .u32 a), by simp [h1], h2, fun i hi => ?_⟩
  by_cases hip : i = p
  · subst hip
    rw [up_same]
    constructor
    · rw [Array.getElem?_setIfInBounds_self_of_lt (by omega)]
    · rw [Array.getElem?_setIfInBounds_ne (by omega)]
      exact (hc i hi).2
  · rw [up_ne _ _ hip, Array.getElem?_setIfInBounds_ne (by omega), Array.getElem?_setIfInBounds_ne (by omega)]
    exact hc i hi
theorem cT_ren (T H : Nat → Nat) (i y : Nat) (hi : T i ≠ 0) (hy : y ≠ 0) (hh : H y = H (T i)) (s : Nat) : cT (up T i y) H s = up (cT T H) i (y, (cT T H i).2) s := by
  by_cases h : s = i
  · subst h
    rw [up_same, cT_is (by rw [up_same]; exact hy), up_same, cT_is hi, hh]
  · rw [up_ne _ _ h]
    unfold cT
    rw [up_ne _ _ h]
/-- What Move answers, and what it leaves. -/
def MvX (w' : World) (px base : Nat) (T H : Nat → Nat) (L : List RB) (gt ct : Nat) (ad : Option Addr) (cap y : Nat) (e : Ending) : Option Nat → Prop
  | none => e = .returned (.int .i64 7) ∧ IsX w' px base T H L gt ct ad cap
  | some i => e = .returned (.int .i64 0) ∧ ∃ g' c', IsX w' px base (up T i y) H L g' c' ad cap
set_option maxRecDepth 100000 in
set_option maxHeartbeats 1000000 in
theorem x20_move (h : IsX w px base T H L gt ct ad cap) (r : RZ 224 T H) {x y p k : Nat} (a : At20 H L x p) (b : At20 H L y k) (hh : (L[p]'a.lt).hs = (L[k]'b.lt).hs) (R : Option Nat) (hR : fndT T H 224 (H x) (fun z => z == x) = R) (hb : base ≤ w.heap.size) :
    Calls Tryz.prog 109 #[.pointer (some ⟨px, 0, none⟩), .int .i64 x, .int .i64 y] w fun e w' => Fr [px] w w' ∧ MvX w' px base T H L gt ct ad cap y e R := by
  have hpl := a.lt
  have hkl := b.lt
  have hfa := (show Calls Tryz.prog 102 #[.pointer (some ⟨px, 0, none⟩), .int .i64 x] w fun e w' => e = .returned (.int .i64 p) ∧ Fr [] w w' from by
    have := x_fnd h x p (by omega) a.no (fun _ => a.at_)
    rwa [if_pos a.lt] at this)
  have HFB := Lib.hid (fun V (hV : Fr [] w V) => (show Calls Tryz.prog 102 #[.pointer (some ⟨px, 0, none⟩), .int .i64 y] V fun e w' => e = .returned (.int .i64 k) ∧ Fr [] V w' from by
    have := x_fnd (h.fr0 hV) y k (by omega) b.no (fun _ => b.at_)
    rwa [if_pos b.lt] at this))
  have HPL := Lib.hid (fun V (hV : Fr [] w V) => (show Calls Tryz.prog 31 #[.pointer (some ⟨px, 0, none⟩), .int .i64 x] V fun e w' => e = .returned (okZ R) ∧ Fr [] V w' from by
    have := x20_place (h.fr0 hV) r a
    rwa [hR] at this))
  obtain ⟨g, rfl, hcap, hcc⟩ := h.cells hpl
  have hcc2 : ∀ V, Fr [] w V → V.cell? ⟨g, k * 6 + 5, none⟩ = some (.int .u32 L[k].hs) := fun V hV => by
    obtain ⟨g2, e, _, hr⟩ := h.row (by omega)
    injection e with e
    injection e with e
    subst e
    exact (hr.fr hV (by simp)).cell k hkl 5 (by decide)
  have HX := Lib.hid h
  have hle := h.len
  have hy1 := b.x1
  have wy : IntKind.u32.wrap (y : Int) = y := IntWalk.u32_in _ (by omega)
  have b1 : decide ((p : Int) < 0) = false := decide_eq_false (by omega)
  have b2 : decide ((k : Int) < 0) = false := decide_eq_false (by omega)
  have n1 : (0 : Int) ≤ p := by omega
  have n2 : (0 : Int) ≤ k := by omega
  have DC := Lib.hid (fun V (hV : Fr [] w V) => (show V.cell? ⟨px, 0, none⟩ = some (.slice (some ⟨gt, 0, none⟩) 224 ct) ∧ V.cell? ⟨px, 1, none⟩ = some (.slice (some ⟨g, 0, none⟩) L.length cap) ∧ V.cell? ⟨g, p * 6 + 5, none⟩ = some (.int .u32 L[k].hs) ∧ V.cell? ⟨g, k * 6 + 5, none⟩ = some (.int .u32 L[k].hs) from by
    obtain ⟨c0, c1, _, _, _, _, _, c5⟩ := hcc V hV
    rw [show L[p].hs = L[k].hs from hh] at c5
    exact ⟨c0, c1, c5, hcc2 V hV⟩))
  have HFI := Lib.hid (show ∀ i, R = some i → i < 224 ∧ T i = x from fun i e => by
    rw [e] at hR
    exact (r.found a.x0).1 i hR)
  have HRN := Lib.hid (show ∀ i, T i = x → ∀ s, cT (up T i y) H s = up (cT T H) i (y, (cT T H i).2) s from fun i e s => cT_ren T H i y (by rw [e]; exact a.x0) b.x0 (by
    rw [e, ← a.hm, ← b.hm]
    exact congrArg (· % 224) hh.symm) s)
  generalize L[k].hs = hs at *
  obtain ⟨n, hn⟩ : ∃ n, L.length = n := ⟨_, rfl⟩
  rw [hn] at DC hcap hle hpl hkl
  have n3 : (p : Int) < n := by omega
  have n4 : (k : Int) < n := by omega
  have b3 : ((hs : Int) != hs) = false := by simp
  clear h hh a b hcc hcc2 hR r
  go_enter Tryz.func109, Tryz.ntmps109
  go_wp2_with fail
  with_reducible refine hfa.mono ?_
  rintro e w1 ⟨rfl, f1⟩
  have F1 := Lib.hid f1
  clear f1 hfa
  go_wp2_with fail
  with_reducible refine (HFB.out _ F1.out).mono ?_
  rintro e w2 ⟨rfl, f2⟩
  have F2 := Lib.hid (F1.out.trans f2)
  clear f2 HFB
  obtain ⟨d0, d1, d2, d3⟩ := DC.out _ F2.out
  go_wp2_with fail
  go_quiet (fail)
  have hpl2 := HPL.out _ (F2.out.drewN nq)
  have F3 := Lib.hid (F2.out.drewN nq)
  clear HPL d0 d1 d2 d3
  cases R with
  | none =>
    rw [show okZ none = .tuple #[.int .i64 0, .bool false] from rfl] at hpl2
    go_wp2_with fail
    with_reducible refine hpl2.mono ?_
    rintro e w4 ⟨rfl, f4⟩
    have F4 := Lib.hid (F3.out.trans f4)
    clear f4
    go_wp2_with fail
    go_ret
    exact ⟨F4.out.nil, rfl, HX.out.fr0 F4.out⟩
  | some i =>
    obtain ⟨hi, hti⟩ := HFI.out i rfl
    rw [show okZ (some i) = .tuple #[.int .i64 i, .bool true] from rfl] at hpl2
    go_wp2_with fail
    with_reducible refine hpl2.mono ?_
    rintro e w4 ⟨rfl, f4⟩
    have F4 := Lib.hid (F3.out.trans f4)
    have R4 := Lib.hid (HX.out.fr0 F4.out).t
    have d0 := (HX.out.fr0 F4.out).c0
    have n5 : (0 : Int) ≤ i := by omega
    have n6 : (i : Int) < 224 := by omega
    have d0' : (w4.alloc (.cells #[] 172)).cell? ⟨px, 0, none⟩ = some (.slice (some ⟨gt, 0, none⟩) 224 ct) := (HX.out.fr0 (F4.out.alloc _)).c0
    clear f4 hpl2
    go_wp2_with (first | (at_builtin; refine wpList_copyT rfl _ _ rfl rfl w4 rfl gt ct 224 _ R4.out rfl rfl (by decide) (by decide) ?_; intro g1 q1 w5 hr5 hg5 f5; have zc0 := hr5.id hi; have zf1 := hr5.frozen (i * 2); have hq1 := hr5.le; have FF := Lib.hid ((F4.out.trans f5).setCell (p := ⟨g1, i * 2, none⟩) (.inr (Nat.le_trans F4.out.size hg5)) (.int .u32 y)); have hx5 := HX.out.fr0 FF.out; have zp := hx5.st.frozen 0; have zp0 := hx5.c0; have RES := Lib.hid (hx5.setT ((hr5.setId i hi y).congr (fun s _ => HRN.out i hti s)) (Nat.le_trans hb (Nat.le_trans F4.out.size hg5))); clear hx5 hr5 f5) | fail)
    go_ret
    exact ⟨FF.out.nil.setCell (p := ⟨px, 0, none⟩) (.inl (by simp)) _, rfl, _, _, RES.out⟩
end
end Go.Proofs.YtmemoopkgjgmiaaGreatDoor
