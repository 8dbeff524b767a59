/- memory.New. -/
import Derived.Test.YtcagljjbiodcoaaDoorMemW
import Derived.Test.YtcagljjbiodcoaaDoorMem
namespace Go.Proofs.YtcagljjbiodcoaaDoor
set_option linter.unusedVariables false
open Go.RowKit

/-- The bytes of a new memory, field by field laid (g: the magic number). -/
def nl0 (a s : Nat) : List Nat := List.replicate (lsize a s) 0
def nl1 (g a s : Nat) : List Nat := putL (nl0 a s) 8 4 g
def nl2 (g a s : Nat) : List Nat := putL (nl1 g a s) 12 4 a
def nl3 (g a s : Nat) : List Nat := putL (nl2 g a s) 16 4 s
theorem nl3_len (g a s : Nat) : (nl3 g a s).length = lsize a s := by
  rw [nl3, putL_len, nl2, putL_len, nl1, putL_len, nl0, List.length_replicate]
def nlk (g a s k : Nat) : List Nat := if k = 0 then nl0 a s else if k = 1 then nl1 g a s else if k = 2 then nl2 g a s else nl3 g a s
theorem nlk_0 (g a s : Nat) : nlk g a s 0 = nl0 a s := by rw [nlk, if_pos rfl]
theorem nlk_1 (g a s : Nat) : nlk g a s 1 = nl1 g a s := by rw [nlk, if_neg (by decide), if_pos rfl]
theorem nlk_2 (g a s : Nat) : nlk g a s 2 = nl2 g a s := by rw [nlk, if_neg (by decide), if_neg (by decide), if_pos rfl]
theorem nlk_3 (g a s : Nat) : nlk g a s 3 = nl3 g a s := by rw [nlk, if_neg (by decide), if_neg (by decide), if_neg (by decide)]
theorem nlk_01 (g a s : Nat) : putL (nlk g a s 0) 8 4 g = nlk g a s 1 := by rw [nlk_0, nlk_1, nl1]
theorem nlk_12 (g a s : Nat) : putL (nlk g a s 1) 12 4 a = nlk g a s 2 := by rw [nlk_1, nlk_2, nl2]
theorem nlk_23 (g a s : Nat) : putL (nlk g a s 2) 16 4 s = nlk g a s 3 := by rw [nlk_2, nlk_3, nl3]
def newLk (a s : Nat) : Nat → List Nat := nlk 1129270338 a s
def newL (a s : Nat) : List Nat := newLk a s 3
theorem newLk_0 (a s : Nat) : newLk a s 0 = List.replicate (lsize a s) 0 := nlk_0 _ a s
theorem newLk_1 (a s : Nat) : putL (newLk a s 0) 8 4 1129270338 = newLk a s 1 := nlk_01 _ a s
theorem newLk_2 (a s : Nat) : putL (newLk a s 1) 12 4 a = newLk a s 2 := nlk_12 _ a s
theorem newLk_3 (a s : Nat) : putL (newLk a s 2) 16 4 s = newLk a s 3 := nlk_23 _ a s
def newM (a s : Nat) : MS := { a := a, s := s, ks := newK a s, l := newL a s, ft := 0 }
theorem newL_len (a s : Nat) : (newL a s).length = lsize a s := (congrArg List.length (nlk_3 _ a s)).trans (nl3_len _ a s)
theorem newLk_len (a s : Nat) : (newLk a s 3).length = lsize a s := (congrArg List.length (nlk_3 _ a s)).trans (nl3_len _ a s)
theorem newM_l (a s : Nat) : newLk a s 3 = (newM a s).l := by
  unfold newM
  simp only
  rw [newL]
theorem isM_new {w : World} {q : MH} {a s : Nat} (st : Blk w q.m 94 #[.pointer (some ⟨q.pw, 0, none⟩), .pointer (some ⟨q.pa, 0, none⟩), .int .i64 a, .int .i64 s]) (wt : ∃ lk, IsW w q.pw q.bw (newK a s) lk 0)
    (ar : IsA w q.pa q.ga q.cap (newLk a s 3)) (ne : q.bw ≠ q.ga) (cfg : Cfg a s) (h4 : lsize a s % 4 = 0) : IsM w q (newM a s) := by
  have e1 : (newM a s).a = a := rfl
  have e2 : (newM a s).s = s := rfl
  have e3 : (newM a s).ks = newK a s := rfl
  have e4 : (newM a s).ft = 0 := rfl
  have e5 := newM_l a s
  have hl : (newLk a s 3).length = lsize a s := newLk_len a s
  have hk := newK_len a s
  generalize newM a s = z at *
  generalize newLk a s 3 = l at *
  generalize newK a s = ks at *
  obtain ⟨za, zs, zk, zl, zf⟩ := z
  simp only at e1 e2 e3 e4 e5
  subst e1 e2 e3 e4 e5
  exact ⟨st, wt, ar, ne, cfg, hl, by simp only; omega⟩
def NewP (w : World) (a s : Nat) (e : Ending) (w' : World) : Prop :=
  ∃ q : MH, e = .returned (.pointer (some ⟨q.m, 0, none⟩)) ∧ IsM w' q (newM a s) ∧ (∀ k ∈ q.blocks, w.heap.size ≤ k) ∧ Fr [] w w'
def NewRel (w : World) (a s pa ga gs : Nat) (u : Value) (W : World) : Prop :=
  ∃ k : Nat, k ≤ 3 ∧ u = .int .i64 k ∧ IsA W pa ga (lsize a s) (newLk a s k) ∧ Blk W gs 3 #[.int .i64 1129270338, .int .i64 a, .int .i64 s] ∧ Blk W w.heap.size 33 #[.int .i64 a, .int .i64 s] ∧ Fr [] w W

set_option maxRecDepth 100000 in
set_option maxHeartbeats 4000000 in
theorem mnew_any (w : World) (hM : TabM w) (a s : Nat) (h : Cfg a s) : Calls Tryd.prog 17 #[cfgV a s] w (NewP w a s) := by
  have hr := fun W h' => lright W h' a s h
  have hsi := fun W h' => lsize_any W h' a s h
  have hwa := fun W h' => watched_any W h' a s h
  unfold WatP at hwa
  have hszl := lsize_le a s h
  have hmay : amayB (lsize a s) = true := by
    obtain ⟨a1, a2, s1, s2, s3⟩ := h
    have h3 : lsize a s % 16 = 0 ∧ 16 ≤ lsize a s := by unfold lsize lbase; omega
    simp [amayB]; omega
  have h4 : lsize a s % 4 = 0 := by
    obtain ⟨a1, a2, s1, s2, s3⟩ := h
    unfold lsize lbase; omega
  have han := fun W => anew_yes W (lsize a s) hmay
  have ha2 := h.a2
  have hs3 := h.s3
  have hp0 : ∀ W pa ga, IsA W pa ga (lsize a s) (newLk a s 0) → Calls Tryd.prog 50 #[.pointer (some ⟨pa, 0, none⟩), .int .i64 8, .int .i64 4, .int .u64 1129270338] W fun e w' => ∃ ec, e = .returned (.int .i64 ec) ∧ IsA w' pa ga (lsize a s) (newLk a s 1) ∧ Fr [ga] W w' := fun W pa ga hA =>
    (aput_any W pa ga _ _ hA 8 4 1129270338 (by omega)).mono fun e w' ⟨he, h1, h2⟩ => ⟨_, he, newLk_1 a s ▸ h1, h2⟩
  have hp1 : ∀ W pa ga, IsA W pa ga (lsize a s) (newLk a s 1) → Calls Tryd.prog 50 #[.pointer (some ⟨pa, 0, none⟩), .int .i64 12, .int .i64 4, .int .u64 a] W fun e w' => ∃ ec, e = .returned (.int .i64 ec) ∧ IsA w' pa ga (lsize a s) (newLk a s 2) ∧ Fr [ga] W w' := fun W pa ga hA =>
    (aput_any W pa ga _ _ hA 12 4 a (by omega)).mono fun e w' ⟨he, h1, h2⟩ => ⟨_, he, newLk_2 a s ▸ h1, h2⟩
  have hp2 : ∀ W pa ga, IsA W pa ga (lsize a s) (newLk a s 2) → Calls Tryd.prog 50 #[.pointer (some ⟨pa, 0, none⟩), .int .i64 16, .int .i64 4, .int .u64 s] W fun e w' => ∃ ec, e = .returned (.int .i64 ec) ∧ IsA w' pa ga (lsize a s) (newLk a s 3) ∧ Fr [ga] W w' := fun W pa ga hA =>
    (aput_any W pa ga _ _ hA 16 4 s (by omega)).mono fun e w' ⟨he, h1, h2⟩ => ⟨_, he, newLk_3 a s ▸ h1, h2⟩
  obtain ⟨P, hP⟩ : ∃ P, P = NewP w a s := ⟨_, rfl⟩
  rw [← hP]
  have HP := Lib.hid hP
  have H := Lib.hid h
  have H4 := Lib.hid h4
  have HL0 := Lib.hid (newLk_0 a s)
  have HN := Lib.hid (newM_l a s)
  have HNL := Lib.hid (newL_len a s)
  have HR := Lib.hid (show ∀ pa ga gs u W, NewRel w a s pa ga gs u W = (∃ k : Nat, k ≤ 3 ∧ u = .int .i64 k ∧ IsA W pa ga (lsize a s) (newLk a s k) ∧ Blk W gs 3 #[.int .i64 1129270338, .int .i64 a, .int .i64 s] ∧ Blk W w.heap.size 33 #[.int .i64 a, .int .i64 s] ∧ Fr [] w W) from fun _ _ _ _ _ => rfl)
  generalize NewRel w a s = R at *
  have ua := u64_nat a (by omega)
  have us := u64_nat s (by omega)
  have um : IntKind.u64.wrap 1129270338 = 1129270338 := u64_nat 1129270338 (by omega)
  clear hP h h4 hmay
  generalize hsz : lsize a s = sz at *
  have HSZ := Lib.hid hsz
  clear hsz
  unfold cfgV at *
  have hMz := hM.size
  go_enter Tryd.func17, Tryd.ntmps17
  go_wp2_with fail
  with_reducible refine (hr _ (hM.alloc _)).mono ?_
  rintro e w1 ⟨rfl, f1⟩
  have hM1 := (hM.alloc (.cells #[.int .i64 a, .int .i64 s] 33)).fr f1 (by simp)
  have hC1 := (Blk.new w 33 #[.int .i64 a, .int .i64 s]).fr f1 (by simp)
  have hF1 := ((Fr.refl [] w).alloc (.cells #[.int .i64 a, .int .i64 s] 33)).trans f1
  have c0 := hC1.cell 0
  have c1 := hC1.cell 1
  simp at c0 c1
  clear f1 hr
  go_wp2_with fail
  with_reducible refine (hsi _ hM1).mono ?_
  rintro e w2 ⟨rfl, f2⟩
  have hM2 := hM1.fr f2 (by simp)
  have hC2 := hC1.fr f2 (by simp)
  have hF2 := hF1.trans f2
  clear f2 hM1 hC1 hF1 c0 c1 hsi
  go_wp2_with fail
  with_reducible refine (han _).mono ?_
  rintro e w3 ⟨pa, ga, rfl, hA3, hpa, hga, f3⟩
  have hC3 := hC2.fr f3 (by simp)
  have hF3 := hF2.trans f3
  have hz2 := hF2.size
  have c0 := hC3.cell 0
  have c1 := hC3.cell 1
  simp at c0 c1
  have hF4 := hF3.alloc (.cells #[.int .i64 1129270338, .int .i64 a, .int .i64 s] 3)
  have hA4 : IsA (w3.alloc (.cells #[.int .i64 1129270338, .int .i64 a, .int .i64 s] 3)) pa ga sz (newLk a s 0) := by rw [HL0.out]; exact hA3.fr (S := []) ((Fr.refl [] _).alloc _) (by simp) (by simp)
  have hG4 : Blk (w3.alloc (.cells #[.int .i64 1129270338, .int .i64 a, .int .i64 s] 3)) w3.heap.size 3 #[.int .i64 1129270338, .int .i64 a, .int .i64 s] := Blk.new _ _ _
  have hpc : w.heap.size < w2.heap.size := hC2.lt
  have hgs : ga < w3.heap.size := hA3.row.lt
  have hps : pa < w3.heap.size := hA3.st.lt
  clear f3 hA3 han hC2 hM2
  go_wp2_with fail
  generalize w3.heap.size = gs at *
  go_loopw [18] (fun u W => R pa ga gs u W) (fun u _ => 3 - (intOf u).toNat)
  case atStart => rw [HR.out]; exact ⟨0, by omega, rfl, hA4, hG4, hC3.alloc _, hF4⟩
  case round =>
    clear hA4 hG4 hF4 hF3 hF2 c0 c1 hC3
    rw [HR.out] at hrel
    obtain ⟨k, hk, rfl, hA, hG, hC, hF⟩ := hrel
    have hMr := hM.fr hF (by simp)
    have g0 := hG.cell 0
    have g1 := hG.cell 1
    have g2 := hG.cell 2
    simp at g0 g1 g2
    have t0 := hMr.fld 0
    have t1 := hMr.fld 1
    have t2 := hMr.fld 2
    simp [fldT, intsZ] at t0 t1 t2
    rcases k with _ | _ | _ | _ | k
    · skip
      go_wp2_with fail
      with_reducible refine (hp0 _ _ _ hA).mono ?_
      rintro e W9 ⟨ec, rfl, hA9, f9⟩
      go_wp2_with fail
      rw [HR.out]
      exact ⟨⟨1, by omega, rfl, hA9, hG.fr f9 (by simp; omega), hC.fr f9 (by simp; omega), hF.step f9 (by simp; omega)⟩, by simp [intOf]⟩
    · skip
      go_wp2_with fail
      with_reducible refine (hp1 _ _ _ hA).mono ?_
      rintro e W9 ⟨ec, rfl, hA9, f9⟩
      go_wp2_with fail
      rw [HR.out]
      exact ⟨⟨2, by omega, rfl, hA9, hG.fr f9 (by simp; omega), hC.fr f9 (by simp; omega), hF.step f9 (by simp; omega)⟩, by simp [intOf]⟩
    · skip
      go_wp2_with fail
      with_reducible refine (hp2 _ _ _ hA).mono ?_
      rintro e W9 ⟨ec, rfl, hA9, f9⟩
      go_wp2_with fail
      rw [HR.out]
      exact ⟨⟨3, by omega, rfl, hA9, hG.fr f9 (by simp; omega), hC.fr f9 (by simp; omega), hF.step f9 (by simp; omega)⟩, by simp [intOf]⟩
    · have c0 := hC.cell 0
      have c1 := hC.cell 1
      simp at c0 c1
      go_wp2_with fail
      have hA5 : IsA wr.drew pa ga sz (newLk a s 3) := hA.fr (S := []) (Fr.refl _ _).drew (by simp) (by simp)
      have hC5 := hC.drew
      have hF5 := hF.drew
      have hM5 := hM.fr hF5 (by simp)
      have hgl : ga < wr.drew.heap.size := hA5.row.lt
      have hpl : pa < wr.drew.heap.size := hA5.st.lt
      have hz5 := hF5.size
      clear hA hG hC hF hp0 hp1 hp2 t0 t1 t2 g0 g1 g2 hMr ua us um
      go_region_held3 (fun w' => w'.cell? ⟨w.heap.size, 0, none⟩ = some (.int .i64 a) ∧ w'.cell? ⟨w.heap.size, 1, none⟩ = some (.int .i64 s)) (first | exact ⟨c0, c1⟩ | exact ⟨((hC9.alloc _).cell 0).trans (by simp), ((hC9.alloc _).cell 1).trans (by simp)⟩)
        (first
          | (go_at_call 51; (with_reducible refine (hwa _ hM5).mono ?_); rintro e W9 ⟨pw, bw, lk, rfl, hW9, hpw, hbw, f9⟩; have hA9 := hA5.fr f9 (by simp) (by simp); have hC9 := hC5.fr f9 (by simp); have hF9 := hF5.trans f9; have c0 := hC9.cell 0; have c1 := hC9.cell 1; simp at c0 c1))
      go_wp2_with fail
      rw [HP.out]
      refine ⟨⟨W9.heap.size, pw, bw, pa, ga, sz⟩, rfl, ?_, ?_, hF9.alloc _⟩
      · exact isM_new (Blk.new _ _ _) ⟨lk, hW9.fr (S := []) ((Fr.refl _ _).alloc _) (by simp) (by simp)⟩ (hA9.fr (S := []) ((Fr.refl _ _).alloc _) (by simp) (by simp)) (by show bw ≠ ga; omega) H.out (by rw [HSZ.out]; exact H4.out)
      · intro k hk
        have := hF9.size
        simp [MH.blocks] at hk
        omega
    · omega
end Go.Proofs.YtcagljjbiodcoaaDoor
