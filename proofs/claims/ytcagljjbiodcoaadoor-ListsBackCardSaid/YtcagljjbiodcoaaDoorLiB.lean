/- Package lists: Begin. -/
import Derived.Test.YtcagljjbiodcoaaDoorLiS
import Derived.Test.YtcagljjbiodcoaaDoorMemB
namespace Go.Proofs.YtcagljjbiodcoaaDoor
set_option linter.unusedVariables false
open Go.RowKit

/-- All heads are noughts. -/
def TM.zHd (t : TM) : TM := { t with hd := fun i p => if i < t.a then 0 else t.hd i p }
theorem zHd_ok {t : TM} (h : t.Ok) : t.zHd.Ok := ⟨h.cfg, h.rt, fun i p => by
  show (if i < t.a then 0 else t.hd i p) < _
  split
  · exact Nat.pow_pos (by decide)
  · exact h.hd i p, h.sl, h.bt, h.kd⟩
theorem zHd_byte {t : TM} (h : t.Ok) (i : Nat) : byteAt t.zHd i = if 128 ≤ i ∧ i < 128 + 16 * t.a then 0 else byteAt t i := by
  have hz := cfg_sizes h.cfg
  by_cases h1 : i < 128
  · rw [if_neg (by omega)]
    unfold byteAt
    rw [if_pos h1, if_pos h1]; rfl
  · by_cases h2 : i < lslots t.a
    · rw [if_pos (by omega)]
      unfold byteAt
      rw [if_neg h1, if_pos (show i < lslots t.zHd.a from h2)]
      unfold headB
      show nb (if (i - 128) / 16 < t.a then 0 else _) _ = 0
      rw [if_pos (by omega), nb_0]
    · rw [if_neg (by omega)]
      unfold byteAt
      rw [if_neg h1, if_neg h1, if_neg h2, if_neg (show ¬ i < lslots t.zHd.a from h2)]
      rfl
theorem may_hd {t : TM} (h : t.Ok) (i : Nat) (hi : i < 16 * t.a) : mayL t.ms.ks ((128 + i : Nat) : Int) 1 ((3 : Nat) : Int) = true := by
  have hz := cfg_sizes h.cfg
  have h4 := lsize_4 t.a t.s
  refine may_ok _ (128 + i) 1 3 (.inl rfl) (Nat.mod_one _) (by decide) (by show _ ≤ 4 * t.kinds.length; rw [TM.kinds_len]; omega) (fun g h1 h2 => ?_)
  refine (TM.kinds_get t g (by omega)).trans ?_
  unfold kindAt
  rw [if_neg (by omega), if_neg (by omega), if_pos (by omega)]
theorem tzero_hd {w : World} {q : MH} {t : TM} (h : IsT w q t) (n : Int) (hn : n = ((16 * t.a : Nat) : Int)) :
    Calls Tryd.prog 71 #[.pointer (some ⟨q.m, 0, none⟩), .int .i64 128, .int .i64 n, .int .i64 3] w fun e w' => e = .returned (.bool true) ∧ IsT w' q t.zHd ∧ Fr q.blocks w w' := by
  subst hn
  have hz := cfg_sizes h.ok.cfg
  have hl : t.ms.l.length = lsize t.a t.s := TM.bytes_len t
  have hE : 128 + 16 * t.a ≤ t.ms.l.length := by rw [hl]; omega
  have := mzero_yes w q t.ms h.m 128 (16 * t.a) 3 hE (fun i hi => may_hd h.ok i hi)
  refine this.mono fun e w' ⟨he, hm, hf⟩ => ⟨he, ⟨zHd_ok h.ok, ?_, h.tab.fr hf.pwga h.hi, h.hi⟩, hf.pwga⟩
  have e1 : spl t.ms.l 128 (List.replicate (16 * t.a) 0) = t.zHd.bytes := by
    apply List.ext_getElem?
    intro i
    have hle : (spl t.ms.l 128 (List.replicate (16 * t.a) 0)).length = t.ms.l.length := spl_len _ _ _ (by rw [List.length_replicate]; exact hE)
    have hle2 : t.zHd.bytes.length = lsize t.a t.s := TM.bytes_len _
    rcases Nat.lt_or_ge i (lsize t.a t.s) with hi | hi
    · have g1 := spl_get t.ms.l 128 (List.replicate (16 * t.a) 0) (by rw [List.length_replicate]; exact hE) i
      have g2 : t.zHd.bytes[i]?.getD 0 = byteAt t.zHd i := TM.bytes_get t.zHd i hi
      have g3 : t.ms.l[i]?.getD 0 = byteAt t i := TM.bytes_get t i hi
      rw [zHd_byte h.ok] at g2
      rw [g3, List.length_replicate] at g1
      have h1 : i < (spl t.ms.l 128 (List.replicate (16 * t.a) 0)).length := by rw [hle, hl]; exact hi
      have h2 : i < t.zHd.bytes.length := by rw [hle2]; exact hi
      have g4 : (spl t.ms.l 128 (List.replicate (16 * t.a) 0))[i]?.getD 0 = t.zHd.bytes[i]?.getD 0 := by
        rw [g1, g2]
        by_cases hh : 128 ≤ i ∧ i < 128 + 16 * t.a
        · rw [if_pos hh, if_pos hh, List.getElem?_replicate, if_pos (by omega)]; rfl
        · rw [if_neg hh, if_neg hh]
      rw [List.getElem?_eq_getElem h1, List.getElem?_eq_getElem h2] at g4 ⊢
      simpa using g4
    · rw [List.getElem?_eq_none (by rw [hle, hl]; exact hi), List.getElem?_eq_none (by rw [hle2]; exact hi)]
  rw [e1] at hm
  exact hm

/-- The roots of the first k lists are noughts. -/
def TM.zRt (t : TM) (k : Nat) : TM := { t with rt := fun f => if 3 ≤ f ∧ f < 3 + k then 0 else t.rt f }
theorem zRt_0 (t : TM) : t.zRt 0 = t := by
  unfold TM.zRt
  have : (fun f => if 3 ≤ f ∧ f < 3 + 0 then 0 else t.rt f) = t.rt := funext fun f => if_neg (by omega)
  rw [this]
theorem zRt_succ (t : TM) (k : Nat) : (t.zRt k).setRt (3 + k) 0 = t.zRt (k + 1) := by
  have : (up (t.zRt k).rt (3 + k) 0) = (t.zRt (k + 1)).rt := funext fun f => by
    show up (fun f => if 3 ≤ f ∧ f < 3 + k then 0 else t.rt f) (3 + k) 0 f = if 3 ≤ f ∧ f < 3 + (k + 1) then 0 else t.rt f
    by_cases e : f = 3 + k
    · rw [e, up_same, if_pos (by omega)]
    · rw [up_ne _ _ e]
      by_cases h : 3 ≤ f ∧ f < 3 + k
      · rw [if_pos h, if_pos (by omega)]
      · rw [if_neg h, if_neg (by omega)]
  unfold TM.setRt
  rw [this]
  rfl
/-- Begin, with the last k slabs in the list of free ones. -/
def TM.beg (t : TM) : Nat → TM
  | 0 => t.zHd.zRt 10
  | k + 1 => (t.beg k).lnk 0 (t.a - 1 - k) 0 ((t.beg k).rt 3)
theorem beg_a (t : TM) : ∀ k, (t.beg k).a = t.a
  | 0 => rfl
  | k + 1 => by rw [TM.beg, lnk_a]; exact beg_a t k
def innB (a k : Nat) (x : Nat) : Int := if a - k ≤ x then 0 else -1
theorem LS.congr {t : TM} {i j : Nat → Int} (h : LS t i) (e : ∀ x, x < t.a → j x = i x) : LS t j := by
  have e1 : ∀ c, lst t.a j c = lst t.a i c := fun c => by
    unfold lst
    exact List.filter_congr fun x hx => by rw [e x (List.mem_range.1 hx)]
  exact ⟨fun c hc => by rw [e1]; exact h.ln c hc, fun x hx hn => h.out x hx (by rw [← e x hx]; exact hn), fun x hx => by rw [e x hx]; exact h.le x hx⟩
theorem beg_LS (t : TM) : ∀ k, k ≤ t.a → LS (t.beg k) (innB t.a k)
  | 0, _ => by
    have e : ∀ c, lst t.a (innB t.a 0) c = [] := fun c => by
      unfold lst
      rw [List.filter_eq_nil_iff]
      intro x hx
      have := List.mem_range.1 hx
      unfold innB
      rw [if_neg (by omega)]
      simp
    refine ⟨fun c hc => ?_, fun x hx _ => ?_, fun x hx => ?_⟩
    · show Lk _ 0 _ (lst t.a (innB t.a 0) c)
      rw [e]
      show (if 3 ≤ 3 + c ∧ 3 + c < 3 + 10 then 0 else _) = 0
      rw [if_pos (by omega)]
    · have hx' : x < t.a := hx
      show (if x < t.a then 0 else _) = 0 ∧ (if x < t.a then 0 else _) = 0
      rw [if_pos hx', if_pos hx']
      exact ⟨rfl, rfl⟩
    · unfold innB; split <;> omega
  | k + 1, hk => by
    have ih := beg_LS t k (by omega)
    have ha := beg_a t k
    have hx : t.a - 1 - k < (t.beg k).a := by rw [ha]; omega
    have hn : innB t.a k (t.a - 1 - k) < 0 := by unfold innB; rw [if_neg (by omega)]; omega
    have hlo : loL (innB t.a k) (t.a - 1 - k) 0 = [] := by
      unfold loL
      rw [List.filter_eq_nil_iff]
      intro x hx
      have := List.mem_range.1 hx
      unfold innB
      rw [if_neg (by omega)]
      simp
    have h1 := ih.ins (c := 0) (by decide) hx hn
    have h2 := ih.behind (c := 0) (by decide) hx (by omega)
    rw [hlo, if_neg (by decide)] at h2
    rw [hlo, ← h2] at h1
    rw [TM.beg]
    refine h1.congr fun x hx' => ?_
    have hx2 : x < t.a := by rw [lnk_a, ha] at hx'; exact hx'
    unfold innB
    by_cases e : x = t.a - 1 - k
    · rw [e, up_same, if_pos (by omega)]; rfl
    · rw [up_ne _ _ e]
      by_cases h : t.a - k ≤ x
      · rw [if_pos h, if_pos (by omega)]
      · rw [if_neg h, if_neg (by omega)]

/-- All but lists is the same. -/
structure Lis (t u : TM) : Prop where
  a : u.a = t.a
  s : u.s = t.s
  sl : u.sl = t.sl
  bt : u.bt = t.bt
  kd : u.kd = t.kd
  ft : u.ft = t.ft
  hd : ∀ y r, r ≠ 3 → r ≠ 4 → u.hd y r = t.hd y r
  rt : ∀ f, f < 3 ∨ 12 < f → u.rt f = t.rt f
theorem Lis.refl (t : TM) : Lis t t := ⟨rfl, rfl, rfl, rfl, rfl, rfl, fun _ _ _ _ => rfl, fun _ _ => rfl⟩
theorem Lis.trans {t u v : TM} (h : Lis t u) (k : Lis u v) : Lis t v :=
  ⟨k.a.trans h.a, k.s.trans h.s, k.sl.trans h.sl, k.bt.trans h.bt, k.kd.trans h.kd, k.ft.trans h.ft, fun y r h1 h2 => (k.hd y r h1 h2).trans (h.hd y r h1 h2), fun f hf => (k.rt f hf).trans (h.rt f hf)⟩
theorem lis_hd (t : TM) (x r v : Nat) (h : r = 3 ∨ r = 4) : Lis t (t.setHd x r v) := ⟨rfl, rfl, rfl, rfl, rfl, rfl, fun y s h1 h2 => by rw [TM.setHd_hd, if_neg (by omega)], fun _ _ => rfl⟩
theorem lis_rt (t : TM) (f v : Nat) (h : 3 ≤ f ∧ f ≤ 12) : Lis t (t.setRt f v) := ⟨rfl, rfl, rfl, rfl, rfl, rfl, fun _ _ _ _ => rfl, fun g hg => by rw [TM.setRt_rt, if_neg (by omega)]⟩
theorem lis_after (t : TM) (c p n : Nat) (hc : c ≤ 9) : Lis t (t.after c p n) := by
  unfold TM.after
  split
  · exact lis_hd _ _ _ _ (.inl rfl)
  · exact lis_rt _ _ _ (by omega)
theorem lis_lnk (t : TM) (c x p n : Nat) (hc : c ≤ 9) : Lis t (t.lnk c x p n) := by
  unfold TM.lnk
  dsimp only
  refine Lis.trans ?_ (lis_after _ c p _ hc)
  have h1 := (lis_hd t x 4 p (.inr rfl)).trans (lis_hd _ x 3 n (.inl rfl))
  split
  · exact h1.trans (lis_hd _ _ 4 _ (.inr rfl))
  · exact h1
theorem lis_unl (t : TM) (c x p n : Nat) (hc : c ≤ 9) : Lis t (t.unl c x p n) := by
  unfold TM.unl
  dsimp only
  refine Lis.trans (Lis.trans ?_ (lis_hd _ x 3 0 (.inl rfl))) (lis_hd _ x 4 0 (.inr rfl))
  split
  · exact (lis_after t c p n hc).trans (lis_hd _ _ 4 _ (.inr rfl))
  · exact lis_after t c p n hc
theorem lis_beg (t : TM) : ∀ k, Lis t.zHd (t.beg k)
  | 0 => ⟨rfl, rfl, rfl, rfl, rfl, rfl, fun _ _ _ _ => rfl, fun f hf => by
      show (if 3 ≤ f ∧ f < 3 + 10 then 0 else t.rt f) = t.rt f
      rw [if_neg (by omega)]⟩
  | k + 1 => by
    rw [TM.beg]
    exact (lis_beg t k).trans (lis_lnk _ _ _ _ _ (by decide))

theorem mul_wrap (a : Nat) (h : a ≤ 64) : IntKind.i64.wrap ((a : Int) * 16) = (a : Int) * 16 := IntWalk.i64_in _ (by omega)
set_option maxRecDepth 100000 in
theorem libegin {w : World} {q : MH} {t : TM} (h : IsT w q t) :
    Calls Tryd.prog 32 #[.pointer (some ⟨q.m, 0, none⟩)] w fun e w' => e = .returned (.int .i64 0) ∧ IsT w' q (t.beg t.a) ∧ Fr q.blocks w w' := by
  have hma := limade h
  have HC := Lib.hid (fun W hW => tcfg (w := W) (q := q) (t := t) hW)
  have hfd := field_a t.a t.s
  have ha := (tm_small h.ok).1
  have w0 := mul_wrap t.a ha
  have HZ := Lib.hid (fun W hW => tzero_hd (w := W) (q := q) (t := t) hW ((t.a : Int) * 16) (by omega))
  have HS := Lib.hid (fun W (k : Nat) (hk : k < 10) (hW : IsT W q (t.zHd.zRt k)) => by
    have := tsetroot hW (3 + k) (by omega) 0 (by unfold fldW; rw [if_neg (by omega)]; decide) ((3 : Int) + k) (by omega) 0 rfl
    rw [zRt_succ] at this
    exact this)
  have HF := Lib.hid (fun W (k : Nat) (hW : IsT W q (t.beg k)) => lifirst hW 0 (by decide) 0 rfl)
  have HL := Lib.hid (fun W (k : Nat) (hk : k < t.a) (hW : IsT W q (t.beg k)) => by
    have ha' := beg_a t k
    have hrt : (t.beg k).rt 3 ≤ (t.beg k).a := by
      have := (beg_LS t k (by omega)).root (c := 0) (by decide)
      rw [show (t.beg k).rt 3 = _ from this]
      exact hd1_le _ _ _
    have := lilink hW 0 (t.a - 1 - k) 0 ((t.beg k).rt 3) (by decide) (by rw [ha']; omega) (Nat.zero_le _) hrt
    rw [show ((t.a - 1 - k : Nat) : Int) = (t.a : Int) - 1 - k by omega, show ((0 : Nat) : Int) = 0 from rfl] at this
    exact this)
  have HB0 := Lib.hid (show t.beg 0 = t.zHd.zRt 10 from rfl)
  have HB1 := Lib.hid (show ∀ k, t.beg (k + 1) = (t.beg k).lnk 0 (t.a - 1 - k) 0 ((t.beg k).rt 3) from fun k => rfl)
  have HZ0 := Lib.hid (zRt_0 t.zHd)
  have HT := Lib.hid h
  have w1 : IntKind.i64.wrap ((t.a : Int) - 1) = (t.a : Int) - 1 := IntWalk.i64_in _ (by omega)
  generalize hbe : t.beg = be at *
  generalize t.zHd = tz at *
  clear hbe
  generalize t.a = a at *
  generalize t.s = s at *
  clear h
  go_enter Tryd.func32, Tryd.ntmps32
  go_wp2_with fail
  with_reducible refine hma.mono ?_
  rintro e w1 ⟨rfl, f1⟩
  have H1 := Lib.hid (HT.out.fr0 f1)
  clear hma
  go_wp2_with fail
  with_reducible refine (HC.out _ H1.out).mono ?_
  rintro e w2 ⟨rfl, f2⟩
  have H2 := Lib.hid (H1.out.fr0 f2)
  have F2 := Lib.hid ((f1.trans f2).nil (S := q.blocks))
  clear f1 f2
  go_wp2_with fail
  with_reducible refine (HZ.out _ H2.out).mono ?_
  rintro e w3 ⟨rfl, h3, f3⟩
  have H3 := Lib.hid h3
  have F3 := Lib.hid (F2.out.trans f3)
  clear h3 f3
  go_wp2_with fail
  go_loopw [16] (fun v W => ∃ j : Nat, j ≤ 10 ∧ v = .int .i64 j ∧ IsT W q (tz.zRt j) ∧ Fr q.blocks w W) (fun v _ => 10 - (intOf v).toNat)
  case atStart => exact ⟨0, by omega, rfl, by rw [HZ0.out]; exact H3.out, F3.out⟩
  case round =>
    obtain ⟨j, hj, rfl, hI, hF⟩ := hrel
    have HFr := Lib.hid hF
    by_cases e : j < 10
    · have hs := HS.out _ j e hI
      have b0 : decide ((j : Int) < 10) = true := by simp; omega
      have b0' : decide (j < 10) = true := by simp; omega
      have w4 : IntKind.i64.wrap ((j : Int) + 1) = (j : Int) + 1 := IntWalk.i64_in _ (by omega)
      have w5 : IntKind.i64.wrap ((3 : Int) + j) = (3 : Int) + j := IntWalk.i64_in _ (by omega)
      clear hI hF
      go_wp2_with fail
      with_reducible refine hs.mono ?_
      rintro e w2 ⟨rfl, h2, f2⟩
      have H2 := Lib.hid h2
      have F2 := Lib.hid (HFr.out.trans f2)
      clear h2 f2 hs
      go_wp2_with fail
      exact ⟨⟨j + 1, by omega, by go_num, H2.out, F2.out⟩, by simp [intOf]; omega⟩
    · have e10 : j = 10 := by omega
      rw [e10, ← HB0.out] at hI
      have HI := Lib.hid hI
      have b0 : decide ((j : Int) < 10) = false := by simp; omega
      have b0' : decide (j < 10) = false := by simp; omega
      clear hI hF e hj H3 F3 e10
      go_wp2_with fail
      go_loopw [25] (fun v W => ∃ j : Nat, j ≤ a ∧ v = .int .i64 j ∧ IsT W q (be j) ∧ Fr q.blocks w W) (fun v _ => a - (intOf v).toNat)
      case atStart => exact ⟨0, by omega, rfl, HI.out, HFr.out⟩
      case round =>
        clear HI HFr
        obtain ⟨j, hj, rfl, hI, hF⟩ := hrel
        have HFr := Lib.hid hF
        by_cases e : j < a
        · have hf := HF.out _ j hI
          have hl := Lib.hid (fun W hW => HL.out W j e hW)
          rw [← HB1.out j] at hl
          have b0 : decide ((j : Int) < a) = true := by simp; omega
          have b0' : decide (j < a) = true := by simp; omega
          have w4 : IntKind.i64.wrap ((j : Int) + 1) = (j : Int) + 1 := IntWalk.i64_in _ (by omega)
          have w5 : IntKind.i64.wrap ((a : Int) - 1 - j) = (a : Int) - 1 - j := IntWalk.i64_in _ (by omega)
          clear hI hF
          go_wp2_with fail
          with_reducible refine hf.mono ?_
          rintro e w2 ⟨rfl, h2, f2⟩
          have F2 := Lib.hid (HFr.out.trans f2)
          clear f2 hf
          go_wp2_with fail
          with_reducible refine (hl.out _ h2).mono ?_
          rintro e w3 ⟨rfl, h3, f3⟩
          have H3 := Lib.hid h3
          have F3 := Lib.hid (F2.out.trans f3)
          clear h2 f3 h3 hl
          go_wp2_with fail
          exact ⟨⟨j + 1, by omega, by go_num, H3.out, F3.out⟩, by simp [intOf]; omega⟩
        · obtain rfl : j = a := by omega
          have HI := Lib.hid hI
          clear hI hF
          go_wp2_with fail
          go_ret
          exact ⟨rfl, HI.out, HFr.out⟩
end Go.Proofs.YtcagljjbiodcoaaDoor
