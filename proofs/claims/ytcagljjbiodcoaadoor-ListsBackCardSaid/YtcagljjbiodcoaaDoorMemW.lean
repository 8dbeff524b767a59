/- memory.watched: a watch of a config's parts. -/
import Derived.Test.YtcagljjbiodcoaaDoorLayS
import Derived.Test.YtcagljjbiodcoaaDoorWLook
namespace Go.Proofs.YtcagljjbiodcoaaDoor
set_option linter.unusedVariables false
open Go.RowKit

def RunOk (n : Nat) (r : Rn) : Prop := r.1 % 4 = 0 ∧ r.2.1 % 4 = 0 ∧ r.1 + r.2.1 ≤ n ∧ r.2.2 ≤ 8
theorem layStep_ok (n : Nat) (l : List Rn) (e k : Nat) (h : ∀ r ∈ l, RunOk n r) (h4 : lastEnd l % 4 = 0) (he : e % 4 = 0) (hn : e ≤ n) (hk : k ≤ 8) : ∀ r ∈ layStep l e k, RunOk n r := by
  unfold layStep
  split
  · intro r hr
    rcases List.mem_append.1 hr with hr | hr
    · exact h r hr
    · simp at hr
      subst hr
      refine ⟨h4, ?_, ?_, hk⟩ <;> simp <;> omega
  · exact h
theorem lruns_ok (a s : Nat) (h : Cfg a s) : ∀ r ∈ lruns a s, RunOk (lsize a s) r := by
  obtain ⟨e1, e2, e3, e4, e5, e6⟩ := l_ends a s h
  obtain ⟨a1, a2, s1, s2, s3⟩ := h
  have z : lslots a = 128 + 16 * a := rfl
  have zb : lbase a s % 4 = 0 ∧ lslots a + 4 * s ≤ lbase a s ∧ lsize a s = lbase a s + 1024 * a := by unfold lsize lslots lbase; omega
  obtain ⟨z1, z2, z3⟩ := zb
  have k1 := layStep_ok (lsize a s) [] 8 1 (by simp) (by decide) (by omega) (by omega) (by omega)
  have k2 := layStep_ok (lsize a s) l1 128 2 k1 (by rw [e1]) (by omega) (by omega) (by omega)
  have k3 := layStep_ok (lsize a s) l2 (lslots a) 3 k2 (by rw [e2]) (by omega) (by omega) (by omega)
  have k4 := layStep_ok (lsize a s) (l3 a) (lslots a + 4 * s) 4 k3 (by rw [e3]; omega) (by omega) (by omega) (by omega)
  have k5 := layStep_ok (lsize a s) (l4 a s) (lbase a s) 8 k4 (by rw [e4]; omega) (by omega) (by omega) (by omega)
  exact layStep_ok (lsize a s) (l5 a s) (lsize a s) 7 k5 (by rw [e5]; omega) (by omega) (by omega) (by omega)

def markR (ks : List Nat) (r : Rn) : List Nat := setR ks (r.1 / 4) ((r.1 + r.2.1) / 4) r.2.2
theorem markR_len (ks : List Nat) (r : Rn) : (markR ks r).length = ks.length := setR_length _ _ _ _
theorem marks_len (l : List Rn) : ∀ ks : List Nat, (l.foldl markR ks).length = ks.length := by
  induction l with
  | nil => intro ks; rfl
  | cons r l ih => intro ks; rw [List.foldl_cons, ih, markR_len]
/-- The kinds of a new memory's grains. -/
def newK (a s : Nat) : List Nat := (lruns a s).foldl markR (List.replicate (lsize a s / 4) 0)
theorem newK_len (a s : Nat) : (newK a s).length = lsize a s / 4 := by unfold newK; rw [marks_len, List.length_replicate]

def WatRel (w : World) (pw bw base : Nat) (v : Value) (L : List Rn) (K0 : List Nat) (u : Value) (W : World) : Prop :=
  ∃ k : Nat, k ≤ L.length ∧ u = .int .i64 k ∧ (∃ lk, IsW W pw bw ((L.take k).foldl markR K0) lk 0) ∧ OwnR W base v L ∧ Fr [] w W
def WatP (w : World) (a s : Nat) (e : Ending) (w' : World) : Prop :=
  ∃ pw bw lk, e = .returned (.pointer (some ⟨pw, 0, none⟩)) ∧ IsW w' pw bw (newK a s) lk 0 ∧ w.heap.size ≤ pw ∧ w.heap.size ≤ bw ∧ Fr [] w w'

theorem own_keepS {w w' : World} {base n size : Nat} {e : TypeId} {v : Value} {xs : List Value} {b : Nat} {t : TypeId} {cs : Array Value} (h : w.ownsRow base e size v n xs) (hf : Fr [b] w w') (hb : Blk w b t cs) (hne : t ≠ e) : w'.ownsRow base e size v n xs := by
  obtain ⟨h1, h2 | ⟨g', cap, cur, rfl, hgb, hh, h3⟩⟩ := h
  · exact ⟨h1, .inl h2⟩
  · refine ⟨h1, .inr ⟨g', cap, cur, rfl, hgb, Blk.fr (S := [b]) hh hf (by simp; exact fun e => by subst e; exact (Blk.ne_ hb hh hne) rfl), h3⟩⟩

set_option maxRecDepth 100000 in
set_option maxHeartbeats 4000000 in
theorem watched_any (w : World) (hM : TabM w) (a s : Nat) (h : Cfg a s) : Calls Tryd.prog 51 #[cfgV a s] w (WatP w a s) := by
  have hsi := fun W h' => lsize_any W h' a s h
  have hru := fun W h' => lruns_any W h' a s h
  have hszl := lsize_le a s h
  have hsz4 : lsize a s % 4 = 0 ∧ 4 ≤ lsize a s := by
    obtain ⟨a1, a2, s1, s2, s3⟩ := h
    unfold lsize lbase; omega
  have HOK := Lib.hid (lruns_ok a s h)
  obtain ⟨m, hm⟩ : ∃ m, m = lsize a s / 4 := ⟨_, rfl⟩
  have hnw : ∀ W, Calls Tryd.prog 93 #[.int .i64 (lsize a s)] W fun e w' => ∃ p b, e = .returned (.pointer (some ⟨p, 0, none⟩)) ∧ IsW w' p b (List.replicate m 0) 0 0 ∧ W.heap.size ≤ p ∧ W.heap.size ≤ b ∧ Fr [] W w' := fun W => by
    have := new_yes W m (by omega) (by omega)
    rw [show (4 * (m : Int)) = (lsize a s : Int) by omega] at this
    exact this
  obtain ⟨P, hP⟩ : ∃ P, P = WatP w a s := ⟨_, rfl⟩
  rw [← hP]
  have HP := Lib.hid hP
  have HK := Lib.hid (show newK a s = (lruns a s).foldl markR (List.replicate m 0) by unfold newK; rw [hm])
  have hlen := (l_lens a s).2.2.2.2.2
  clear hP hsz4
  generalize lruns a s = L at *
  generalize hsz : lsize a s = sz at *
  have HSZ := Lib.hid hsz
  have HMM := Lib.hid hm
  clear hsz hm
  unfold cfgV at *
  unfold RunsP at hru
  go_enter Tryd.func51, Tryd.ntmps51
  go_wp2_with fail
  with_reducible refine (hsi _ (hM.alloc _)).mono ?_
  rintro e w1 ⟨rfl, f1⟩
  have hM1 := (hM.alloc (.cells #[.int .i64 a, .int .i64 s] 33)).fr f1 (by simp)
  have hC1 := (Blk.new w 33 #[.int .i64 a, .int .i64 s]).fr f1 (by simp)
  have hF1 := ((Fr.refl [] w).alloc (.cells #[.int .i64 a, .int .i64 s] 33)).trans f1
  clear f1 hsi hM
  go_wp2_with fail
  with_reducible refine (hnw _).mono ?_
  rintro e w2 ⟨pw, bw, rfl, hW2, hpw, hbw, f2⟩
  have hM2 := hM1.fr f2 (by simp)
  have hC2 := hC1.fr f2 (by simp)
  have hF2 := hF1.trans f2
  have hz1 := hF1.size
  have c0 := hC2.cell 0
  have c1 := hC2.cell 1
  simp at c0 c1
  clear f2 hnw hM1 hC1 hF1
  go_wp2_with fail
  with_reducible refine (hru _ hM2).mono ?_
  rintro e w3 ⟨v, rfl, hO3, f3⟩
  have hW3 := hW2.fr f3 (by simp) (by simp)
  have hF3 := hF2.trans f3
  have hz2 := hF2.size
  clear f3 hru hM2 hC2 c0 c1
  obtain ⟨A, kc, hv⟩ := own_slice hO3
  generalize hln : L.length = n at *
  subst hv
  have HLN := Lib.hid hln
  have hln2 : L.length ≤ n := by omega
  clear hln
  go_wp2_with fail
  have HR := Lib.hid (show ∀ u W, WatRel w pw bw w2.heap.size (.slice A n kc) L (List.replicate m 0) u W = (∃ k : Nat, k ≤ L.length ∧ u = .int .i64 k ∧ (∃ lk, IsW W pw bw ((L.take k).foldl markR (List.replicate m 0)) lk 0) ∧ OwnR W w2.heap.size (.slice A n kc) L ∧ Fr [] w W) from fun _ _ => rfl)
  generalize WatRel w pw bw w2.heap.size (.slice A n kc) L (List.replicate m 0) = R at *
  go_loopw [12] (fun u W => R u W) (fun u _ => n - (intOf u).toNat)
  case atStart => rw [HR.out]; exact ⟨0, by omega, rfl, ⟨0, by simpa using hW3⟩, hO3, hF3⟩
  case round =>
    clear hW2 hW3 hO3 hF2 hF3
    rw [HR.out] at hrel
    obtain ⟨k, hk, rfl, ⟨lk, hW⟩, hO, hF⟩ := hrel
    rw [HLN.out] at hk
    by_cases hlt : k < n
    · obtain ⟨r, hr⟩ : ∃ r, L[k]? = some r := ⟨_, List.getElem?_eq_getElem (by rw [HLN.out]; exact hlt)⟩
      have hrok := HOK.out r (List.mem_of_getElem? hr)
      obtain ⟨g, cap, hv, _, hgl⟩ := World.ownsRow.form hO (by rw [HLN.out]; omega)
      have hcells := World.ownsRow.cells hO (g := g) (by rw [hv]; rfl)
      injection hv with hA hnn hcc
      subst hA
      clear hnn hcc
      obtain ⟨e1, e2, e3⟩ := rCells_get L k r hr
      have hadd : ∀ j, (⟨g, 0, none⟩ : Addr).add j = ⟨g, j, none⟩ := fun j => by unfold Addr.add; split <;> simp_all
      have q1 := hcells _ _ e1
      have q2 := hcells _ _ e2
      have q3 := hcells _ _ e3
      rw [hadd, Nat.mul_comm] at q1 q2 q3
      obtain ⟨ra, rl, rk⟩ := r
      obtain ⟨o1, o2, o3, o4⟩ := hrok
      simp only at o1 o2 o3 o4 q1 q2 q3
      have hkl := hW.len
      have hklen : ((L.take k).foldl markR (List.replicate m 0)).length = m := by rw [marks_len, List.length_replicate]
      have hmm := HMM.out
      have hmk : ∀ W, IsW W pw bw ((L.take k).foldl markR (List.replicate m 0)) lk 0 → Calls Tryd.prog 57 #[.pointer (some ⟨pw, 0, none⟩), .int .i64 ra, .int .i64 rl, .int .i64 rk] W fun e w' => e = .returned (.int .i64 0) ∧ IsW w' pw bw ((L.take (k + 1)).foldl markR (List.replicate m 0)) lk 0 ∧ Fr [bw] W w' := fun W hW => by
        have := mark_ok W pw bw ((L.take k).foldl markR (List.replicate m 0)) lk 0 ra rl (ra / 4) ((ra + rl) / 4) rk hW (by omega) (by rw [hklen]; omega) o4 (by omega) (by omega)
        rw [List.take_add_one, hr, Option.toList_some, List.foldl_append, List.foldl_cons, List.foldl_nil]
        exact this
      have HWr := Lib.hid hW
      have HOr := Lib.hid hO
      clear e1 e2 e3 hadd hcells hr hkl hklen hmm o1 o2 o3 o4 hW hO
      have hix : (k : Int) < n := by omega
      go_wp2_with fail
      with_reducible refine (hmk _ (HWr.out.fr (S := []) ((Fr.refl [] _).alloc _) (by simp) (by simp))).mono ?_
      rintro e W9 ⟨rfl, hW9, f9⟩
      go_wp2_with fail
      rw [HR.out]
      refine ⟨⟨k + 1, by rw [HLN.out]; omega, by go_num, ⟨lk, hW9⟩, ?_, ?_⟩, by simp [intOf]; omega⟩
      · exact own_keepS (World.ownsRow.alloc HOr.out _) f9 (HWr.out.row.alloc _) (by decide)
      · exact (hF.alloc _).step f9 (by simp; omega)
    · obtain rfl : k = n := by omega
      go_wp2_with fail
      rw [HP.out]
      rw [List.take_of_length_le (by omega)] at hW
      refine ⟨pw, bw, lk, rfl, ?_, ?_, ?_, hF⟩
      · rw [HK.out]; exact hW
      · omega
      · omega
end Go.Proofs.YtcagljjbiodcoaaDoor
