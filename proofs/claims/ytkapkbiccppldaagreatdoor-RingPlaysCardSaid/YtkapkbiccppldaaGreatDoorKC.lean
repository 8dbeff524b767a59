/- Several texts in one. -/
import Derived.Test.YtkapkbiccppldaaGreatDoorGG
/- head.lying, touched, Load of a tag, Get: at any place. -/
namespace Go.Proofs.YtkapkbiccppldaaGreatDoor
set_option linter.unusedVariables false
set_option linter.unusedSimpArgs false
open Go.RowKit

section
variable {w : World} {q : MH} {t : TM}
def TM.fl (t : TM) (f : Int) : TM := { t with ft := f }
theorem fl_ok (h : t.Ok) (f : Int) : (t.fl f).Ok := ⟨h.cfg, h.rt, h.hd, h.sl, h.bt, h.kd⟩
theorem fl_ms (t : TM) (f : Int) : (t.fl f).ms = { t.ms with ft := f } := by
  have e1 : (t.fl f).kinds = t.kinds := by unfold TM.kinds; exact List.map_congr_left (fun _ _ => rfl)
  have e2 : (t.fl f).bytes = t.bytes := by unfold TM.bytes; exact List.map_congr_left (fun _ _ => rfl)
  show ({ a := t.a, s := t.s, ks := (t.fl f).kinds, l := (t.fl f).bytes, ft := f } : MS) = { a := t.a, s := t.s, ks := t.kinds, l := t.bytes, ft := f }
  rw [e1, e2]
theorem look_fl (t : TM) (x wd k : Int) : ∃ f, t.ms.look x wd k = (t.fl f).ms := ⟨_, (fl_ms t _).symm⟩
theorem IsT.toFl {w' : World} (h : IsT w q t) {f : Int} (hm : IsM w' q (t.fl f).ms) (hf : Fr [q.pw] w w') : IsT w' q (t.fl f) :=
  ⟨fl_ok h.ok f, hm, h.tab.fr hf.pw h.hi, h.hi⟩
/-- A number is read at any place: a fault may be counted. -/
theorem tload_any (h : IsT w q t) (x wd k : Int) : Calls Tryz.prog 71 #[.pointer (some ⟨q.m, 0, none⟩), .int .i64 x, .int .i64 wd, .int .i64 k] w fun e w' => e = .returned (.int .u64 (t.ms.ld x wd k)) ∧ (∃ f, IsT w' q (t.fl f)) ∧ Fr q.blocks w w' :=
  (mload w q t.ms h.m x wd k).mono fun e w' ⟨he, h1, h2⟩ => ⟨he, by obtain ⟨f, e⟩ := look_fl t x wd k; rw [e] at h1; exact ⟨f, h.toFl h1 h2⟩, h2.pw⟩
theorem IsH.fl {w' : World} {f : Int} (h : IsH w q t) (hm : IsT w' q (t.fl f)) (hf : Fr q.blocks w w') : IsH w' q (t.fl f) := h.step hm hf
/-- Which block lies at a place: its tag. -/
def tagA (t : TM) (x : Int) : Int := if kindL t.kinds x 4 = 5 then wrap64 (t.ms.ld x 1 5 : Nat) else 0
theorem lying_any (h : IsH w q t) (x : Int) : Calls Tryz.prog 157 #[.pointer (some ⟨q.m, 0, none⟩), .int .i64 x] w fun e w' => e = .returned (.tuple #[.int .i64 (tagA t x), .int .i64 (kindL t.kinds x 4)]) ∧ (∃ f, IsH w' q (t.fl f)) ∧ Fr q.blocks w w' := by
  have hkd := mkind w q t.ms h.m.m x 4
  have HI := Lib.hid h
  have hL := fun W (hW : IsT W q t) => (show Calls Tryz.prog 71 #[.pointer (some ⟨q.m, 0, none⟩), .int .i64 x, .int .i64 1, .int .i64 5] W fun e w' => e = .returned (.int .u64 (t.ms.ld x 1 5)) ∧ (∃ f, IsT w' q (t.fl f)) ∧ Fr q.blocks W w' from tload_any hW x 1 5)
  have h0 := Lib.hid (show IsH w q (t.fl t.ft) from h)
  have hkd : Calls Tryz.prog 79 #[.pointer (some ⟨q.m, 0, none⟩), .int .i64 x, .int .i64 4] w fun e w' => e = .returned (.int .i64 (kindL t.kinds x 4)) ∧ w' = w := hkd
  unfold tagA
  generalize kindL t.kinds x 4 = K at *
  generalize t.ms.ld x 1 5 = v at *
  clear h
  by_cases h5 : K = 5
  · subst h5
    rw [if_pos rfl]
    go_enter Tryz.func157, Tryz.ntmps157
    go_wp2_with fail
    have hkd' : Calls Tryz.prog 79 #[.pointer (some ⟨q.m, 0, none⟩), .int .i64 x, .int .i64 4] w fun e w' => e = .returned (.int .i64 5) ∧ w' = w := hkd
    with_reducible refine hkd'.mono ?_
    rintro e w' ⟨rfl, rfl⟩
    go_wp2_with fail
    with_reducible refine (hL _ HI.out.m).mono ?_
    rintro e w1 ⟨rfl, ⟨f, h1⟩, f1⟩
    go_wp2_with fail
    go_ret2
    exact ⟨rfl, ⟨f, HI.out.fl h1 f1⟩, f1⟩
  · have hb : ((K : Int) != 5) = true := by simp; omega
    rw [if_neg h5]
    go_enter Tryz.func157, Tryz.ntmps157
    go_wp2_with fail
    with_reducible refine hkd.mono ?_
    rintro e w' ⟨rfl, rfl⟩
    go_wp2_with fail
    go_ret2
    exact ⟨rfl, ⟨_, h0.out⟩, Fr.refl _ _⟩
theorem kindL_some {ks : List Nat} {x : Int} (h : kindL ks x 4 ≠ 0) : 0 ≤ x ∧ x + 4 ≤ 4 * ks.length := by
  unfold kindL at h
  split at h
  · exact absurd rfl h
  · next hc =>
    have hf : fitsB (4 * ks.length) x 4 = true := by
      cases hb : fitsB (4 * ks.length) x 4
      · exact absurd (.inr hb) hc
      · rfl
    unfold fitsB at hf
    simp at hf
    omega
theorem ld_lt (hok : t.Ok) (x wd k : Int) : t.ms.ld x wd k < 18446744073709551616 := by
  unfold MS.ld
  split
  · next hm =>
    unfold ldV
    split
    · have hw : wd = 1 ∨ wd = 2 ∨ wd = 4 ∨ wd = 8 := by unfold mayL at hm; simp at hm; exact hm.1
      have hb : ∀ b ∈ t.bytes, b < 256 := fun b hb => by
        unfold TM.bytes at hb
        obtain ⟨i, _, rfl⟩ := List.mem_map.1 hb
        exact byteAt_lt hok i
      have := ldTo_lt t.bytes hb x.toNat wd.toNat
      have h8 : (256 : Nat) ^ wd.toNat ≤ 18446744073709551616 := by
        rcases hw with rfl | rfl | rfl | rfl <;> decide
      exact Nat.lt_of_lt_of_le this h8
    · decide
  · decide
theorem touched_any (h : IsH w q t) (x a b kind : Nat) (hx : x + a ≤ 1099511627776) :
    Calls Tryz.prog 164 #[.pointer (some ⟨q.m, 0, none⟩), .int .i64 x, .agg #[.int .i64 a, .int .i64 b], .int .i64 kind] w fun e w' => ∃ (v : Nat) (ok : Bool), e = .returned (.tuple #[.int .u64 v, .bool ok]) ∧ v < 18446744073709551616 ∧ (∃ f, IsH w' q (t.fl f)) ∧ Fr q.blocks w w' := by
  have hfa := fun W f (hW : IsT W q (t.fl f)) => (show Calls Tryz.prog 26 #[.pointer (some ⟨q.m, 0, none⟩)] W fun e w' => e = .returned (.int .i64 f) ∧ Fr [] W w' from tfaults hW)
  have hld : ∀ W, IsT W q t → Calls Tryz.prog 71 #[.pointer (some ⟨q.m, 0, none⟩), .int .i64 ((x : Int) + a), .int .i64 b, .int .i64 kind] W fun e w'' => e = .returned (.int .u64 (t.ms.ld ((x : Int) + a) b kind)) ∧ (∃ f, IsT w'' q (t.fl f)) ∧ Fr q.blocks W w'' := fun W hW => tload_any hW _ _ _
  have hv := ld_lt h.m.ok ((x : Int) + a) b kind
  have HI := Lib.hid h
  have hw1 : IntKind.i64.wrap ((x : Int) + a) = (x : Int) + a := IntWalk.i64_in _ (by omega)
  have hlt := h.m.lt
  have hbq := Lib.hid (show w.heap.size ∉ q.blocks from fun hm => by have := hlt _ hm; omega)
  have HV := Lib.hid hv
  have h0 : t.fl t.ft = t := rfl
  have hf0 := fun W (hW : IsT W q t) => hfa W t.ft hW
  generalize t.ft = ft at hf0
  generalize t.ms.ld ((x : Int) + a) b kind = v at *
  clear h hlt hv h0
  go_enter Tryz.func164, Tryz.ntmps164
  go_wp2_with fail
  with_reducible refine (hf0 _ (HI.out.alloc _).m).mono ?_
  rintro e w1 ⟨rfl, f1⟩
  have hF1 := Lib.hid (((Fr.refl [] w).alloc (.cells #[.int .i64 a, .int .i64 b] 170)).trans f1)
  have hI1 := Lib.hid (HI.out.fr0 hF1.out)
  have hB1 := (Blk.new w 170 #[.int .i64 a, .int .i64 b]).fr f1 (by simp)
  have c0 := hB1.cell 0
  have c1 := hB1.cell 1
  simp at c0 c1
  clear f1 hB1
  go_wp2_with fail
  with_reducible refine (hld _ hI1.out.m).mono ?_
  rintro e w2 ⟨rfl, ⟨f, h2⟩, f2⟩
  have hI2 := Lib.hid (hI1.out.fl h2 f2)
  have hF2 := Lib.hid (hF1.out.nil.trans f2)
  clear h2 f2 c0 c1 hld hf0
  go_wp2_with fail
  with_reducible refine (hfa _ _ hI2.out.m).mono ?_
  rintro e w3 ⟨rfl, f3⟩
  generalize hbb : ((f == ft) : Bool) = bb at *
  go_wp2_with fail
  go_ret2
  exact ⟨v, _, rfl, HV.out, ⟨f, hI2.out.fr0 f3⟩, hF2.out.trans f3.nil⟩
end
end Go.Proofs.YtkapkbiccppldaaGreatDoor

/- head.Get at any place. -/
namespace Go.Proofs.YtkapkbiccppldaaGreatDoor
set_option linter.unusedVariables false
set_option linter.unusedSimpArgs false
open Go.RowKit

def GetN (w : World) (q : MH) (t : TM) (tag : Int) (e : Ending) (w' : World) : Prop := ∃ (X : HB) (c : Nat), e = .returned (.tuple #[X.val, .int .i64 c]) ∧ (c = 0 → X.tag = tag) ∧ (∃ f, IsH w' q (t.fl f)) ∧ Fr q.blocks w w'
def zHB : HB := { tag := 0, cls := 0, used := false, label := 0, name := 0, next := 0, prev := 0, refs := 0, expiry := 0, typ := 0, size := 0, hash := 0 }
/-- What the loop of Get has. -/
def AnyRel (w : World) (q : MH) (t : TM) (B B2 : Nat) (v : Value) (wr : World) : Prop :=
  ∃ (k : Nat) (N : Nat → Nat), k ≤ 12 ∧ v = .int .i64 k ∧ (∀ f, N f < 18446744073709551616) ∧ (∃ f, IsH wr q (t.fl f)) ∧ Fr q.blocks w wr ∧ Blk wr B 101 zeroC ∧ Blk wr B2 175 (numsA N 12)
theorem numsA_up (N : Nat → Nat) (k v : Nat) (hk : k < 12) : (numsA N 12).setIfInBounds k (.int .u64 (v : Int)) = numsA (up N k v) 12 := by
  apply Array.ext_getElem?
  intro i
  rw [Array.getElem?_setIfInBounds]
  by_cases hi : i < 12
  · rw [numsA_get _ _ _ hi, numsA_get _ _ _ hi, if_pos hi, if_pos hi]
    by_cases e : k = i
    · subst e
      rw [if_pos rfl, if_pos (by simp [numsA]; omega), up_same]
    · rw [if_neg e, up_ne _ _ (fun h => e h.symm)]
  · have e1 : (numsA N 12)[i]? = none := Array.getElem?_eq_none (by simp [numsA]; omega)
    have e2 : (numsA (up N k v) 12)[i]? = none := Array.getElem?_eq_none (by simp [numsA]; omega)
    rw [if_neg (by omega), e1, e2]
set_option maxRecDepth 100000 in
set_option maxHeartbeats 8000000 in
theorem hget_any (w : World) (q : MH) (t : TM) (h : IsH w q t) (x : Int) : Calls Tryz.prog 72 #[.pointer (some ⟨q.m, 0, none⟩), .int .i64 x] w (GetN w q t (tagA t x)) := by
  have HLY := Lib.hid (fun W (hW : IsH W q t) => lying_any hW x)
  have HI := Lib.hid h
  have hlt := h.m.lt
  have HBQ := Lib.hid (show ∀ k, w.heap.size ≤ k → k ∉ q.blocks from fun k hk hm => by have := hlt _ hm; omega)
  have HS0 := Lib.hid h.m.tab.size
  have HS1 := Lib.hid h.tabs.size
  have hzz : zeroC = #[.int .i64 0, .int .i64 0, .bool false, .int .i64 0, .int .u32 0, .int .u32 0, .int .u32 0, .int .u32 0, .int .u64 0, .int .u16 0, .int .i64 0, .int .u32 0] := rfl
  have HZZ := Lib.hid hzz
  have hrange : kindL t.kinds x 4 ≠ 0 → 0 ≤ x ∧ x + 4 ≤ 1099511627000 := fun hk => by
    have := kindL_some hk
    rw [t.kinds_len] at this
    have l1 := (lsize_4 t.a t.s).1
    obtain ⟨c1, c2, c3, c4, c5⟩ := h.m.ok.cfg
    have l2 : lsize t.a t.s ≤ 1099511627000 := by unfold lsize lbase; omega
    omega
  have hP := Lib.hid (show ∀ w' (X : HB) (c : Nat), (c = 0 → X.tag = tagA t x) → (∃ f, IsH w' q (t.fl f)) → Fr q.blocks w w' → GetN w q t (tagA t x) (.returned (.tuple #[.agg X.cells, .int .i64 c])) w' from fun w' X c h0 a b => ⟨X, c, rfl, h0, a, b⟩)
  have HFR := Lib.hid (show ∀ W W' (hW : ∃ f, IsH W q (t.fl f)) (hf : Fr [w.heap.size] W W'), ∃ f, IsH W' q (t.fl f) from fun W W' ⟨f, h1⟩ hf => ⟨f, h1.m.fr hf (fun k hk hm => by simp at hm; subst hm; exact HBQ.out _ (Nat.le_refl _) hk) (fun k hk hm => by simp at hm; subst hm; have := HS0.out; omega), h1.tabs.fr hf (by have := HS1.out; simpa using this), h1.hi⟩)
  have hi := fun w => is_any w (tagA t x)
  have h5 : tagA t x ≠ 0 → kindL t.kinds x 4 = 5 := fun hne => by
    unfold tagA at hne
    split at hne
    · next e => exact e
    · exact absurd rfl hne
  generalize GetN w q t (tagA t x) = P at *
  generalize tagA t x = tag at *
  generalize kindL t.kinds x 4 = K at *
  clear hlt hzz
  by_cases hK : K = 5 ∨ K = 6
  · by_cases hT : 0 ≤ tag ∧ tag ≤ 2
    · obtain ⟨tg, rfl⟩ : ∃ n : Nat, tag = n := ⟨tag.toNat, by omega⟩
      have hxr := hrange (by omega)
      obtain ⟨x, rfl⟩ : ∃ n : Nat, x = n := ⟨x.toNat, by omega⟩
      have ht2 : tg ≤ 2 := by omega
      have b1 : (decide (0 ≤ (tg : Int)) && decide ((tg : Int) < 3)) = true := by simp; omega
      rw [b1] at hi
      have hkk : ((K : Int) != 5) = false ∨ (((K : Int) != 5) = true ∧ ((K : Int) != 6) = false) := by
        rcases hK with e | e
        · exact .inl (by rw [e]; rfl)
        · exact .inr ⟨by rw [e]; rfl, by rw [e]; rfl⟩
      have HTO := Lib.hid (show ∀ k : Nat, k < 12 → (wh tg k).2 ≠ 0 → ∀ W f, IsH W q (t.fl f) → Calls Tryz.prog 164 #[.pointer (some ⟨q.m, 0, none⟩), .int .i64 x, .agg #[.int .i64 (wh tg k).1, .int .i64 (wh tg k).2], .int .i64 K] W fun e w' => ∃ (v : Nat) (ok : Bool), e = .returned (.tuple #[.int .u64 v, .bool ok]) ∧ v < 18446744073709551616 ∧ (∃ f', IsH w' q (t.fl f')) ∧ Fr q.blocks W w' from
        fun k hk h0 W f hW => by
          have w := wh_ok tg k ht2 hk h0
          have sl := sz_le tg ht2
          exact touched_any hW x _ _ K (by omega))
      have hpl := fun W h (f : Nat) => place_any W h tg f
      have hDR := Lib.hid (show ∀ B B2 v wr, AnyRel w q t B B2 v wr = (∃ (k : Nat) (N : Nat → Nat), k ≤ 12 ∧ v = .int .i64 k ∧ (∀ f, N f < 18446744073709551616) ∧ (∃ f, IsH wr q (t.fl f)) ∧ Fr q.blocks w wr ∧ Blk wr B 101 zeroC ∧ Blk wr B2 175 (numsA N 12)) from fun _ _ _ _ => rfl)
      have HSM := Lib.hid (fun (W W' : World) (B2 : Nat) (f : Int) (h1 : IsH W q (t.fl f)) (hf : Fr [B2] W W') (hb : w.heap.size ≤ B2) => (show IsH W' q (t.fl f) from ⟨h1.m.fr hf (fun k hk hm => by simp at hm; subst hm; exact HBQ.out _ hb hk) (fun k hk hm => by simp at hm; subst hm; have := HS0.out; omega), h1.tabs.fr hf (by have := HS1.out; simp; omega), h1.hi⟩))
      generalize AnyRel w q t = RR at *
      clear hK h5 hrange h hT b1 hxr
      rcases hkk with hk1 | ⟨hk1, hk2⟩
      all_goals
        go_enter Tryz.func72, Tryz.ntmps72
        go_wp2_with fail
        with_reducible refine (HLY.out _ (HI.out.alloc _)).mono ?_
        rintro e w1 ⟨rfl, h1, f1⟩
        have hI1 := Lib.hid h1
        have hF1 := Lib.hid (((Fr.refl q.blocks w).alloc (.cells zeroC 101)).trans f1)
        have hB1 := Lib.hid ((Blk.new w 101 zeroC).fr f1 (HBQ.out _ (Nat.le_refl _)))
        clear f1 h1
        go_wp2_with fail
        with_reducible refine (hi _).mono ?_
        rintro e w' ⟨rfl, rfl⟩
        have hN1 := Lib.hid (Blk.new w' 175 #[.int .u64 0, .int .u64 0, .int .u64 0, .int .u64 0, .int .u64 0, .int .u64 0, .int .u64 0, .int .u64 0, .int .u64 0, .int .u64 0, .int .u64 0, .int .u64 0])
        have hBN : w.heap.size < w'.heap.size := hB1.out.lt
        have START : RR w.heap.size w'.heap.size (.int .i64 0) (w'.alloc (.cells #[.int .u64 0, .int .u64 0, .int .u64 0, .int .u64 0, .int .u64 0, .int .u64 0, .int .u64 0, .int .u64 0, .int .u64 0, .int .u64 0, .int .u64 0, .int .u64 0] 175)) := by
          rw [hDR.out]
          refine ⟨0, fun _ => 0, by omega, rfl, fun _ => (by decide : 0 < 18446744073709551616), ?_, hF1.out.alloc _, hB1.out.alloc _, by rw [numsA_12]; exact hN1.out⟩
          obtain ⟨f, h1⟩ := hI1.out
          exact ⟨f, h1.alloc _⟩
        clear hN1 hB1 hF1 hI1
        have HBN := Lib.hid (HBQ.out w'.heap.size (Nat.le_of_lt hBN))
        have HB0 := Lib.hid (HBQ.out w.heap.size (Nat.le_refl _))
        have hNB : w.heap.size ≤ w'.heap.size := Nat.le_of_lt hBN
        generalize hb2 : w'.heap.size = B2 at *
        go_wp2_with fail
        clear hb2
        go_loopw [33] (fun v W => RR w.heap.size B2 v W) (fun v _ => 12 - (intOf v).toNat)
        case atStart => exact START
        case round =>
          clear START
          rw [hDR.out] at hrel
          obtain ⟨k, N, hk, rfl, hN, ⟨f0, hI⟩, hF, hBz, hBn⟩ := hrel
          have HIr := Lib.hid hI
          have HFr := Lib.hid hF
          have HZr := Lib.hid hBz
          have HNr := Lib.hid hBn
          have HNN := Lib.hid hN
          have hltn := hBn.lt
          clear hI hF hBz hBn hN
          by_cases hlt : k < 12
          · have hp := fun W h => hpl W h k
            clear hpl
            by_cases hw : (wh tg k).2 = 0
            · have hwz : whZ tg k = (0, 0) := wh_zero tg k (by rw [whZ_nat tg k (by omega) hlt]; exact hw)
              rw [hwz] at hp
              simp only [rowV] at hp
              have hE : ∀ w, (Op.equalIn 10000 170 (.agg #[.int .i64 0, .int .i64 0]) (.agg #[.int .i64 0, .int .i64 0])).run Tryz.prog w = .ok true w := fun w => eq_row 0 0 0 0 w
              clear hwz hw
              go_wp2_with fail
              with_reducible refine (hp _ HIr.out.tabs).mono ?_
              rintro e w3 ⟨rfl, f3⟩
              have hI3 := Lib.hid ((HIr.out.fr0 f3).alloc (.cells #[.int .i64 0, .int .i64 0] 170))
              have n0 := hI3.out.tabs.now 0
              have n1 := hI3.out.tabs.now 1
              simp [nowT, intsA] at n0 n1
              have hF3 := Lib.hid ((HFr.out.trans f3.nil).alloc (.cells #[.int .i64 0, .int .i64 0] 170))
              have hB3 := Lib.hid ((HZr.out.fr f3 (by simp)).alloc (.cells #[.int .i64 0, .int .i64 0] 170))
              have hN3 := Lib.hid ((HNr.out.fr f3 (by simp)).alloc (.cells #[.int .i64 0, .int .i64 0] 170))
              clear f3 hp
              go_wp2_with fail
              rw [hDR.out]
              exact ⟨⟨k + 1, N, by omega, by go_num, HNN.out, ⟨f0, hI3.out⟩, hF3.out, hB3.out, hN3.out⟩, by simp [intOf]; omega⟩
            · have hwz : whZ tg k = wh tg k := whZ_nat tg k (by omega) hlt
              rw [hwz] at hp
              have hto := HTO.out k hlt hw
              clear hwz
              generalize wh tg k = ab at *
              obtain ⟨a, b⟩ := ab
              simp only [rowV] at hp
              simp only at hw hto
              have hb0 : ((b : Int) == 0) = false := by simp; omega
              have hE : ∀ w, (Op.equalIn 10000 170 (.agg #[.int .i64 a, .int .i64 b]) (.agg #[.int .i64 0, .int .i64 0])).run Tryz.prog w = .ok false w := fun w => by rw [eq_row, hb0, Bool.and_false]
              clear hw
              go_wp2_with fail
              with_reducible refine (hp _ HIr.out.tabs).mono ?_
              rintro e w3 ⟨rfl, f3⟩
              have hI3 := Lib.hid ((HIr.out.fr0 f3).alloc (.cells #[.int .i64 a, .int .i64 b] 170))
              have n0 := hI3.out.tabs.now 0
              have n1 := hI3.out.tabs.now 1
              simp [nowT, intsA] at n0 n1
              have hF3 := Lib.hid ((HFr.out.trans f3.nil).alloc (.cells #[.int .i64 a, .int .i64 b] 170))
              have hB3 := Lib.hid ((HZr.out.fr f3 (by simp)).alloc (.cells #[.int .i64 a, .int .i64 b] 170))
              have hN3 := Lib.hid ((HNr.out.fr f3 (by simp)).alloc (.cells #[.int .i64 a, .int .i64 b] 170))
              have hc3 := (Blk.new w3 170 #[.int .i64 a, .int .i64 b]).cell 0
              clear f3 hp hc3
              go_wp2_with fail
              with_reducible refine (hto _ _ hI3.out).mono ?_
              rintro e w4 ⟨v, ok, rfl, hv, h4, f4⟩
              have hI4 := Lib.hid h4
              have hF4 := Lib.hid (hF3.out.trans f4)
              have hB4 := Lib.hid (hB3.out.fr f4 HB0.out)
              have hN4 := Lib.hid (hN3.out.fr f4 HBN.out)
              clear h4 f4 hto n0 n1 hE
              rcases ok with _ | _
              · have hBz4 := hB4.out
                rw [HZZ.out] at hBz4
                (have d0 := hBz4.cell 0; have z0 := hBz4.frozen 0; have d1 := hBz4.cell 1; have z1 := hBz4.frozen 1; have d2 := hBz4.cell 2; have z2 := hBz4.frozen 2; have d3 := hBz4.cell 3; have z3 := hBz4.frozen 3; have d4 := hBz4.cell 4; have z4 := hBz4.frozen 4; have d5 := hBz4.cell 5; have z5 := hBz4.frozen 5; have d6 := hBz4.cell 6; have z6 := hBz4.frozen 6; have d7 := hBz4.cell 7; have z7 := hBz4.frozen 7; have d8 := hBz4.cell 8; have z8 := hBz4.frozen 8; have d9 := hBz4.cell 9; have z9 := hBz4.frozen 9; have d10 := hBz4.cell 10; have z10 := hBz4.frozen 10; have d11 := hBz4.cell 11; have z11 := hBz4.frozen 11; simp [HB.cells] at d0 d1 d2 d3 d4 d5 d6 d7 d8 d9 d10 d11)
                go_wp2_with fail
                refine gen12 (fun w9 => bodyPost _ _ _ _ _ w9) hBz4 rfl (Fr.refl [w.heap.size] w4) (.inl (by simp)) ?_
                intro w9 hn9 hf9
                (have q0 := hn9.cell 0; have q1 := hn9.cell 1; have q2 := hn9.cell 2; have q3 := hn9.cell 3; have q4 := hn9.cell 4; have q5 := hn9.cell 5; have q6 := hn9.cell 6; have q7 := hn9.cell 7; have q8 := hn9.cell 8; have q9 := hn9.cell 9; have q10 := hn9.cell 10; have q11 := hn9.cell 11; simp at q0 q1 q2 q3 q4 q5 q6 q7 q8 q9 q10 q11)
                refine bodyPost_ret (by simp [results, Tryz.results72, go_sem, q0, q1, q2, q3, q4, q5, q6, q7, q8, q9, q10, q11]; try rfl) rfl (hP.out _ zHB 30 (fun e => nomatch e) (HFR.out _ _ hI4.out hf9) (hF4.out.step hf9 (by simp)))
              · have hc4 := hN4.out.cell k
                have hf4 := hN4.out.frozen k
                rw [numsA_get _ _ _ hlt, if_pos hlt] at hc4
                have HV := Lib.hid hv
                clear hv
                go_wp2_with fail
                rw [hDR.out]
                refine ⟨⟨k + 1, up N k v, by omega, by go_num, fun g => ?_, ?_, hF4.out.setCell (.inr hNB) _, hB4.out.far (p := ⟨B2, k, none⟩) (by simp; omega) _, ?_⟩, by simp [intOf]; omega⟩
                · unfold up; split
                  · exact HV.out
                  · exact HNN.out g
                · obtain ⟨f, h4⟩ := hI4.out
                  exact ⟨f, HSM.out _ _ _ _ h4 ((Fr.refl [B2] w4).setCell (.inl (by simp)) _) hNB⟩
                · have := hN4.out.set k (.int .u64 (v : Int))
                  rw [numsA_up N k v hlt] at this
                  exact this
          · obtain rfl : k = 12 := by omega
            have hbl := fun W => block_any W N
            have hXok := ofNums_ok N HNN.out
            have hrt := fun W h => right_any W h (HB.ofNums N) hXok
            have h2v : (HB.ofNums N).tag = IntKind.i64.wrap (N 0) := rfl
            have hva := numsA_12 N
            generalize hX : HB.ofNums N = X at *
            have hval : X.val = .agg #[.int .i64 X.tag, .int .i64 X.cls, .bool X.used, .int .i64 X.label, .int .u32 X.name, .int .u32 X.next, .int .u32 X.prev, .int .u32 X.refs, .int .u64 X.expiry, .int .u16 X.typ, .int .i64 X.size, .int .u32 X.hash] := rfl
            rw [hval] at hbl hrt
            have HPX := Lib.hid (fun w' (c : Nat) (h0 : c = 0 → X.tag = tg) a b => (show P (.returned (.tuple #[.agg #[.int .i64 X.tag, .int .i64 X.cls, .bool X.used, .int .i64 X.label, .int .u32 X.name, .int .u32 X.next, .int .u32 X.prev, .int .u32 X.refs, .int .u64 X.expiry, .int .u16 X.typ, .int .i64 X.size, .int .u32 X.hash], .int .i64 c])) w' from hP.out w' X c h0 a b))
            have hBn := HNr.out
            have c0 := hBn.cell 0
            have c1 := hBn.cell 1
            have c2 := hBn.cell 2
            have c3 := hBn.cell 3
            have c4 := hBn.cell 4
            have c5 := hBn.cell 5
            have c6 := hBn.cell 6
            have c7 := hBn.cell 7
            have c8 := hBn.cell 8
            have c9 := hBn.cell 9
            have c10 := hBn.cell 10
            have c11 := hBn.cell 11
            rw [hva] at c0 c1 c2 c3 c4 c5 c6 c7 c8 c9 c10 c11 hbl
            simp at c0 c1 c2 c3 c4 c5 c6 c7 c8 c9 c10 c11
            obtain ⟨m1, hm1⟩ : ∃ m : Bool, (X.tag != (tg : Int)) = m := ⟨_, rfl⟩
            obtain ⟨m2, hm2⟩ : ∃ m : Bool, decide ((1 : Int) < (N 2 : Nat)) = m := ⟨_, rfl⟩
            obtain ⟨m2', hm2'⟩ : ∃ m : Bool, decide (1 < N 2) = m := ⟨_, rfl⟩
            have hmm : m2 = m2' := by rw [← hm2, ← hm2']; exact decide_eq_decide.2 (by omega)
            subst hmm
            obtain ⟨m3, hm3⟩ : ∃ m : Bool, X.right = m := ⟨_, rfl⟩
            rw [hm3] at hrt
            have HX0 := Lib.hid (show m1 = false → X.tag = tg from fun e => by rw [e] at hm1; simpa using hm1)
            have HN2 := Lib.hid (fun V (hV : Blk V B2 175 (numsA N 12)) => (show V.cell? ⟨B2, 2, none⟩ = some (.int .u64 (N 2 : Nat)) from by
              have := hV.cell 2
              rw [hva] at this
              simpa using this))
            clear hva hpl hBn hval h2v hX hXok hm3
            go_wp2_with fail
            with_reducible refine (hbl _).mono ?_
            rintro e w3 ⟨rfl, f3⟩
            have hI3 := HIr.out.fr0 f3
            have hF3 := HFr.out.trans f3.nil
            have hBz3 := HZr.out.fr f3 (by simp)
            have e2 := HN2.out _ ((HNr.out.fr f3 (by simp)).alloc (.cells #[.int .i64 X.tag, .int .i64 X.cls, .bool X.used, .int .i64 X.label, .int .u32 X.name, .int .u32 X.next, .int .u32 X.prev, .int .u32 X.refs, .int .u64 X.expiry, .int .u16 X.typ, .int .i64 X.size, .int .u32 X.hash] 101))
            clear f3 hbl
            clear c0 c1 c2 c3 c4 c5 c6 c7 c8 c9 c10 c11
            have HBx := Lib.hid (show Blk (w3.alloc (.cells #[.int .i64 X.tag, .int .i64 X.cls, .bool X.used, .int .i64 X.label, .int .u32 X.name, .int .u32 X.next, .int .u32 X.prev, .int .u32 X.refs, .int .u64 X.expiry, .int .u16 X.typ, .int .i64 X.size, .int .u32 X.hash] 101)) w3.heap.size 101 #[.int .i64 X.tag, .int .i64 X.cls, .bool X.used, .int .i64 X.label, .int .u32 X.name, .int .u32 X.next, .int .u32 X.prev, .int .u32 X.refs, .int .u64 X.expiry, .int .u16 X.typ, .int .i64 X.size, .int .u32 X.hash] from Blk.new _ _ _)
            have hI4 := Lib.hid (hI3.alloc (.cells #[.int .i64 X.tag, .int .i64 X.cls, .bool X.used, .int .i64 X.label, .int .u32 X.name, .int .u32 X.next, .int .u32 X.prev, .int .u32 X.refs, .int .u64 X.expiry, .int .u16 X.typ, .int .i64 X.size, .int .u32 X.hash] 101))
            have hF4 := Lib.hid (hF3.alloc (.cells #[.int .i64 X.tag, .int .i64 X.cls, .bool X.used, .int .i64 X.label, .int .u32 X.name, .int .u32 X.next, .int .u32 X.prev, .int .u32 X.refs, .int .u64 X.expiry, .int .u16 X.typ, .int .i64 X.size, .int .u32 X.hash] 101))
            have hBz4 := Lib.hid (hBz3.alloc (.cells #[.int .i64 X.tag, .int .i64 X.cls, .bool X.used, .int .i64 X.label, .int .u32 X.name, .int .u32 X.next, .int .u32 X.prev, .int .u32 X.refs, .int .u64 X.expiry, .int .u16 X.typ, .int .i64 X.size, .int .u32 X.hash] 101))
            clear hI3 hF3 hBz3
            rcases m1 with _ | _
            · rcases m2 with _ | _
              · go_wp2_with fail
                with_reducible refine (hrt _ hI4.out.tabs).mono ?_
                rintro e w5 ⟨rfl, f5⟩
                have hI5 := Lib.hid (hI4.out.fr0 f5)
                have hF5 := Lib.hid (hF4.out.trans f5.nil)
                have hBz5 := hBz4.out.fr f5 (by simp)
                rw [HZZ.out] at hBz5
                have hBx5 := HBx.out.fr f5 (by simp)
                (have d0 := hBz5.cell 0; have z0 := hBz5.frozen 0; have d1 := hBz5.cell 1; have z1 := hBz5.frozen 1; have d2 := hBz5.cell 2; have z2 := hBz5.frozen 2; have d3 := hBz5.cell 3; have z3 := hBz5.frozen 3; have d4 := hBz5.cell 4; have z4 := hBz5.frozen 4; have d5 := hBz5.cell 5; have z5 := hBz5.frozen 5; have d6 := hBz5.cell 6; have z6 := hBz5.frozen 6; have d7 := hBz5.cell 7; have z7 := hBz5.frozen 7; have d8 := hBz5.cell 8; have z8 := hBz5.frozen 8; have d9 := hBz5.cell 9; have z9 := hBz5.frozen 9; have d10 := hBz5.cell 10; have z10 := hBz5.frozen 10; have d11 := hBz5.cell 11; have z11 := hBz5.frozen 11; simp [HB.cells] at d0 d1 d2 d3 d4 d5 d6 d7 d8 d9 d10 d11)
                (have c0 := hBx5.cell 0; have c1 := hBx5.cell 1; have c2 := hBx5.cell 2; have c3 := hBx5.cell 3; have c4 := hBx5.cell 4; have c5 := hBx5.cell 5; have c6 := hBx5.cell 6; have c7 := hBx5.cell 7; have c8 := hBx5.cell 8; have c9 := hBx5.cell 9; have c10 := hBx5.cell 10; have c11 := hBx5.cell 11; simp [HB.cells] at c0 c1 c2 c3 c4 c5 c6 c7 c8 c9 c10 c11)
                clear hrt f5 hI4 hF4 hBz4 HBx e2
                rcases m3 with _ | _
                · go_wp2_with fail
                  refine gen12 (fun w9 => bodyPost _ _ _ _ _ w9) hBz5 rfl (Fr.refl [w.heap.size] w5) (.inl (by simp)) ?_
                  intro w9 hn9 hf9
                  (have q0 := hn9.cell 0; have q1 := hn9.cell 1; have q2 := hn9.cell 2; have q3 := hn9.cell 3; have q4 := hn9.cell 4; have q5 := hn9.cell 5; have q6 := hn9.cell 6; have q7 := hn9.cell 7; have q8 := hn9.cell 8; have q9 := hn9.cell 9; have q10 := hn9.cell 10; have q11 := hn9.cell 11; simp at q0 q1 q2 q3 q4 q5 q6 q7 q8 q9 q10 q11)
                  refine bodyPost_ret (by simp [results, Tryz.results72, go_sem, q0, q1, q2, q3, q4, q5, q6, q7, q8, q9, q10, q11]; try rfl) rfl (hP.out _ zHB 4 (fun e => nomatch e) (HFR.out _ _ ⟨_, hI5.out⟩ hf9) (hF5.out.step hf9 (by simp)))
                · go_wp2_with fail
                  refine gen12 (fun w9 => bodyPost _ _ _ _ _ w9) hBz5 rfl (Fr.refl [w.heap.size] w5) (.inl (by simp)) ?_
                  intro w9 hn9 hf9
                  (have q0 := hn9.cell 0; have q1 := hn9.cell 1; have q2 := hn9.cell 2; have q3 := hn9.cell 3; have q4 := hn9.cell 4; have q5 := hn9.cell 5; have q6 := hn9.cell 6; have q7 := hn9.cell 7; have q8 := hn9.cell 8; have q9 := hn9.cell 9; have q10 := hn9.cell 10; have q11 := hn9.cell 11; simp at q0 q1 q2 q3 q4 q5 q6 q7 q8 q9 q10 q11)
                  refine bodyPost_ret (by simp [results, Tryz.results72, go_sem, q0, q1, q2, q3, q4, q5, q6, q7, q8, q9, q10, q11]; try rfl) rfl (HPX.out _ 0 (fun _ => HX0.out (by first | exact rfl | trivial)) (HFR.out _ _ ⟨_, hI5.out⟩ hf9) (hF5.out.step hf9 (by simp)))
              · have hBz5 := hBz4.out
                rw [HZZ.out] at hBz5
                (have d0 := hBz5.cell 0; have z0 := hBz5.frozen 0; have d1 := hBz5.cell 1; have z1 := hBz5.frozen 1; have d2 := hBz5.cell 2; have z2 := hBz5.frozen 2; have d3 := hBz5.cell 3; have z3 := hBz5.frozen 3; have d4 := hBz5.cell 4; have z4 := hBz5.frozen 4; have d5 := hBz5.cell 5; have z5 := hBz5.frozen 5; have d6 := hBz5.cell 6; have z6 := hBz5.frozen 6; have d7 := hBz5.cell 7; have z7 := hBz5.frozen 7; have d8 := hBz5.cell 8; have z8 := hBz5.frozen 8; have d9 := hBz5.cell 9; have z9 := hBz5.frozen 9; have d10 := hBz5.cell 10; have z10 := hBz5.frozen 10; have d11 := hBz5.cell 11; have z11 := hBz5.frozen 11; simp [HB.cells] at d0 d1 d2 d3 d4 d5 d6 d7 d8 d9 d10 d11)
                clear hrt HBx
                go_wp2_with fail
                refine gen12 (fun w9 => bodyPost _ _ _ _ _ w9) hBz5 rfl (Fr.refl [w.heap.size] _) (.inl (by simp)) ?_
                intro w9 hn9 hf9
                (have q0 := hn9.cell 0; have q1 := hn9.cell 1; have q2 := hn9.cell 2; have q3 := hn9.cell 3; have q4 := hn9.cell 4; have q5 := hn9.cell 5; have q6 := hn9.cell 6; have q7 := hn9.cell 7; have q8 := hn9.cell 8; have q9 := hn9.cell 9; have q10 := hn9.cell 10; have q11 := hn9.cell 11; simp at q0 q1 q2 q3 q4 q5 q6 q7 q8 q9 q10 q11)
                refine bodyPost_ret (by simp [results, Tryz.results72, go_sem, q0, q1, q2, q3, q4, q5, q6, q7, q8, q9, q10, q11]; try rfl) rfl (hP.out _ zHB 4 (fun e => nomatch e) (HFR.out _ _ ⟨_, hI4.out⟩ hf9) (hF4.out.step hf9 (by simp)))
            · have hBz5 := hBz4.out
              rw [HZZ.out] at hBz5
              (have d0 := hBz5.cell 0; have z0 := hBz5.frozen 0; have d1 := hBz5.cell 1; have z1 := hBz5.frozen 1; have d2 := hBz5.cell 2; have z2 := hBz5.frozen 2; have d3 := hBz5.cell 3; have z3 := hBz5.frozen 3; have d4 := hBz5.cell 4; have z4 := hBz5.frozen 4; have d5 := hBz5.cell 5; have z5 := hBz5.frozen 5; have d6 := hBz5.cell 6; have z6 := hBz5.frozen 6; have d7 := hBz5.cell 7; have z7 := hBz5.frozen 7; have d8 := hBz5.cell 8; have z8 := hBz5.frozen 8; have d9 := hBz5.cell 9; have z9 := hBz5.frozen 9; have d10 := hBz5.cell 10; have z10 := hBz5.frozen 10; have d11 := hBz5.cell 11; have z11 := hBz5.frozen 11; simp [HB.cells] at d0 d1 d2 d3 d4 d5 d6 d7 d8 d9 d10 d11)
              clear hrt HBx e2
              go_wp2_with fail
              refine gen12 (fun w9 => bodyPost _ _ _ _ _ w9) hBz5 rfl (Fr.refl [w.heap.size] _) (.inl (by simp)) ?_
              intro w9 hn9 hf9
              (have q0 := hn9.cell 0; have q1 := hn9.cell 1; have q2 := hn9.cell 2; have q3 := hn9.cell 3; have q4 := hn9.cell 4; have q5 := hn9.cell 5; have q6 := hn9.cell 6; have q7 := hn9.cell 7; have q8 := hn9.cell 8; have q9 := hn9.cell 9; have q10 := hn9.cell 10; have q11 := hn9.cell 11; simp at q0 q1 q2 q3 q4 q5 q6 q7 q8 q9 q10 q11)
              refine bodyPost_ret (by simp [results, Tryz.results72, go_sem, q0, q1, q2, q3, q4, q5, q6, q7, q8, q9, q10, q11]; try rfl) rfl (hP.out _ zHB 4 (fun e => nomatch e) (HFR.out _ _ ⟨_, hI4.out⟩ hf9) (hF4.out.step hf9 (by simp)))
    · have hK5 : K = 5 := h5 (by omega)
      have b1 : (decide (0 ≤ tag) && decide (tag < 3)) = false := by
        rw [Bool.and_eq_false_iff, decide_eq_false_iff_not, decide_eq_false_iff_not]; omega
      rw [b1] at hi
      subst hK5
      clear hK h5 hrange h hT b1
      go_enter Tryz.func72, Tryz.ntmps72
      go_wp2_with fail
      with_reducible refine (HLY.out _ (HI.out.alloc _)).mono ?_
      rintro e w1 ⟨rfl, h1, f1⟩
      have hI1 := Lib.hid h1
      have hF1 := Lib.hid (((Fr.refl q.blocks w).alloc (.cells zeroC 101)).trans f1)
      have hB1 := ((Blk.new w 101 zeroC).fr f1 (HBQ.out _ (Nat.le_refl _)))
      rw [HZZ.out] at hB1
      clear f1 h1
      go_wp2_with fail
      with_reducible refine (hi _).mono ?_
      rintro e w1 ⟨rfl, rfl⟩
      (have d0 := hB1.cell 0; have z0 := hB1.frozen 0; have d1 := hB1.cell 1; have z1 := hB1.frozen 1; have d2 := hB1.cell 2; have z2 := hB1.frozen 2; have d3 := hB1.cell 3; have z3 := hB1.frozen 3; have d4 := hB1.cell 4; have z4 := hB1.frozen 4; have d5 := hB1.cell 5; have z5 := hB1.frozen 5; have d6 := hB1.cell 6; have z6 := hB1.frozen 6; have d7 := hB1.cell 7; have z7 := hB1.frozen 7; have d8 := hB1.cell 8; have z8 := hB1.frozen 8; have d9 := hB1.cell 9; have z9 := hB1.frozen 9; have d10 := hB1.cell 10; have z10 := hB1.frozen 10; have d11 := hB1.cell 11; have z11 := hB1.frozen 11; simp [HB.cells] at d0 d1 d2 d3 d4 d5 d6 d7 d8 d9 d10 d11)
      go_wp2_with fail
      refine gen12 (fun w9 => bodyPost _ _ _ _ _ w9) hB1 rfl (Fr.refl [w.heap.size] w1) (.inl (by simp)) ?_
      intro w9 hn9 hf9
      (have q0 := hn9.cell 0; have q1 := hn9.cell 1; have q2 := hn9.cell 2; have q3 := hn9.cell 3; have q4 := hn9.cell 4; have q5 := hn9.cell 5; have q6 := hn9.cell 6; have q7 := hn9.cell 7; have q8 := hn9.cell 8; have q9 := hn9.cell 9; have q10 := hn9.cell 10; have q11 := hn9.cell 11; simp at q0 q1 q2 q3 q4 q5 q6 q7 q8 q9 q10 q11)
      refine bodyPost_ret (by simp [results, Tryz.results72, go_sem, q0, q1, q2, q3, q4, q5, q6, q7, q8, q9, q10, q11]; try rfl) rfl (hP.out _ zHB 4 (fun e => nomatch e) (HFR.out _ _ hI1.out hf9) (hF1.out.step hf9 (by simp)))
  · have k5 : ((K : Int) != 5) = true := by simp; omega
    have k6 : ((K : Int) != 6) = true := by simp; omega
    clear hK h5 hi hrange h
    go_enter Tryz.func72, Tryz.ntmps72
    go_wp2_with fail
    with_reducible refine (HLY.out _ (HI.out.alloc _)).mono ?_
    rintro e w1 ⟨rfl, h1, f1⟩
    have hI1 := Lib.hid h1
    have hF1 := Lib.hid (((Fr.refl q.blocks w).alloc (.cells zeroC 101)).trans f1)
    have hB1 := ((Blk.new w 101 zeroC).fr f1 (HBQ.out _ (Nat.le_refl _)))
    rw [HZZ.out] at hB1
    (have d0 := hB1.cell 0; have z0 := hB1.frozen 0; have d1 := hB1.cell 1; have z1 := hB1.frozen 1; have d2 := hB1.cell 2; have z2 := hB1.frozen 2; have d3 := hB1.cell 3; have z3 := hB1.frozen 3; have d4 := hB1.cell 4; have z4 := hB1.frozen 4; have d5 := hB1.cell 5; have z5 := hB1.frozen 5; have d6 := hB1.cell 6; have z6 := hB1.frozen 6; have d7 := hB1.cell 7; have z7 := hB1.frozen 7; have d8 := hB1.cell 8; have z8 := hB1.frozen 8; have d9 := hB1.cell 9; have z9 := hB1.frozen 9; have d10 := hB1.cell 10; have z10 := hB1.frozen 10; have d11 := hB1.cell 11; have z11 := hB1.frozen 11; simp [HB.cells] at d0 d1 d2 d3 d4 d5 d6 d7 d8 d9 d10 d11)
    clear f1 h1
    go_wp2_with fail
    refine gen12 (fun w9 => bodyPost _ _ _ _ _ w9) hB1 rfl (Fr.refl [w.heap.size] w1) (.inl (by simp)) ?_
    intro w9 hn9 hf9
    (have q0 := hn9.cell 0; have q1 := hn9.cell 1; have q2 := hn9.cell 2; have q3 := hn9.cell 3; have q4 := hn9.cell 4; have q5 := hn9.cell 5; have q6 := hn9.cell 6; have q7 := hn9.cell 7; have q8 := hn9.cell 8; have q9 := hn9.cell 9; have q10 := hn9.cell 10; have q11 := hn9.cell 11; simp at q0 q1 q2 q3 q4 q5 q6 q7 q8 q9 q10 q11)
    refine bodyPost_ret (by simp [results, Tryz.results72, go_sem, q0, q1, q2, q3, q4, q5, q6, q7, q8, q9, q10, q11]; try rfl) rfl (hP.out _ zHB 30 (fun e => nomatch e) (HFR.out _ _ hI1.out hf9) (hF1.out.step hf9 (by simp)))
end Go.Proofs.YtkapkbiccppldaaGreatDoor

/- head.Load of a tag, at any place. -/
namespace Go.Proofs.YtkapkbiccppldaaGreatDoor
set_option linter.unusedVariables false
set_option linter.unusedSimpArgs false
open Go.RowKit

theorem hload_tag (w : World) (q : MH) (t : TM) (h : IsH w q t) (x : Int) (hx : -9223372036854775808 ≤ x ∧ x ≤ 9223372036854775807) : Calls Tryz.prog 64 #[.pointer (some ⟨q.m, 0, none⟩), .int .i64 x, .int .i64 0] w fun e w' => ∃ v : Nat, e = .returned (.int .u64 v) ∧ (tagA t x = 1 → v = 1) ∧ (∃ f, IsH w' q (t.fl f)) ∧ Fr q.blocks w w' := by
  have HLY := Lib.hid (fun W (hW : IsH W q t) => lying_any hW x)
  have hpl := fun W hW => place_any W hW (tagA t x) 0
  have HI := Lib.hid h
  have HLD := Lib.hid (fun W f (hW : IsH W q (t.fl f)) => tload_any hW.m x 1 (kindL t.kinds x 4 : Nat))
  have hv1 : tagA t x = 1 → t.ms.ld x 1 (kindL t.kinds x 4 : Nat) = 1 := fun e => by
    unfold tagA at e
    split at e
    · next e5 =>
      rw [e5]
      have := ld_lt h.m.ok x 1 5
      show t.ms.ld x 1 5 = 1
      unfold wrap64 at e
      omega
    · exact absurd e (by decide)
  have hfl : ∀ f, (t.fl f).ms.ld x 1 (kindL t.kinds x 4 : Nat) = t.ms.ld x 1 (kindL t.kinds x 4 : Nat) := fun f => by rw [fl_ms]; rfl
  have HW := Lib.hid (fun (W W' : World) f f' (h1 : IsH W q (t.fl f)) (h2 : IsT W' q ((t.fl f).fl f')) (hf : Fr q.blocks W W') => (show IsH W' q (t.fl f') from h1.step h2 hf))
  have hw0 : IntKind.i64.wrap x = x := IntWalk.i64_in _ (by omega)
  have hw1 : IntKind.i64.wrap (x + 0) = x := by rw [Int.add_zero]; exact hw0
  have hT : (0 ≤ tagA t x ∧ tagA t x ≤ 2) ∨ ¬ (0 ≤ tagA t x ∧ tagA t x ≤ 2) := Classical.em _
  by_cases hr : 0 ≤ tagA t x ∧ tagA t x ≤ 2
  · have e1 : whZ (tagA t x) 0 = (0, 1) := by
      have : tagA t x = 0 ∨ tagA t x = 1 ∨ tagA t x = 2 := by omega
      rcases this with e | e | e <;> rw [e] <;> rfl
    rw [e1] at hpl
    simp only [rowV] at hpl
    have HLD := Lib.hid (fun W f (hW : IsH W q (t.fl f)) => (show Calls Tryz.prog 71 #[.pointer (some ⟨q.m, 0, none⟩), .int .i64 x, .int .i64 1, .int .i64 (kindL t.kinds x 4 : Nat)] W fun e w' => e = .returned (.int .u64 (t.ms.ld x 1 (kindL t.kinds x 4 : Nat) : Nat)) ∧ (∃ f', IsT w' q ((t.fl f).fl f')) ∧ Fr q.blocks W w' from by
      have := HLD.out W f hW
      rw [hfl] at this
      exact this))
    have HV := Lib.hid hv1
    generalize t.ms.ld x 1 (kindL t.kinds x 4 : Nat) = v at *
    generalize kindL t.kinds x 4 = K at *
    generalize tagA t x = tag at *
    have hE : ∀ w, (Op.equalIn 10000 170 (.agg #[.int .i64 0, .int .i64 1]) (.agg #[.int .i64 0, .int .i64 0])).run Tryz.prog w = .ok false w := fun w => eq_row 0 1 0 0 w
    clear h hfl hv1 e1 hr hT
    go_enter Tryz.func64, Tryz.ntmps64
    go_wp2_with fail
    with_reducible refine (HLY.out _ HI.out).mono ?_
    rintro e w1 ⟨rfl, ⟨f, h1⟩, f1⟩
    have H1 := Lib.hid h1
    have F1 := Lib.hid f1
    clear h1 f1
    go_wp2_with fail
    with_reducible refine (hpl _ H1.out.tabs).mono ?_
    rintro e w2 ⟨rfl, f2⟩
    have H2 := Lib.hid ((H1.out.fr0 f2).alloc (.cells #[.int .i64 0, .int .i64 1] 170))
    have F2 := Lib.hid ((F1.out.trans f2.nil).alloc (.cells #[.int .i64 0, .int .i64 1] 170))
    have n0 := H2.out.tabs.now 0
    have n1 := H2.out.tabs.now 1
    simp [nowT, intsA] at n0 n1
    clear f2 hpl
    go_wp2_with fail
    with_reducible refine (HLD.out _ _ H2.out).mono ?_
    rintro e w3 ⟨rfl, ⟨f', h3⟩, f3⟩
    have H3 := Lib.hid (HW.out _ _ _ _ H2.out h3 f3)
    have F3 := Lib.hid (F2.out.trans f3)
    clear h3 f3
    go_wp2_with fail
    go_ret
    exact ⟨v, rfl, HV.out, ⟨f', H3.out⟩, F3.out⟩
  · have e1 : whZ (tagA t x) 0 = (0, 0) := by unfold whZ; rw [if_neg (by omega)]
    rw [e1] at hpl
    simp only [rowV] at hpl
    have hne : tagA t x ≠ 1 := fun e => hr (by omega)
    have HNE := Lib.hid hne
    generalize tagA t x = tag at *
    have hE : ∀ w, (Op.equalIn 10000 170 (.agg #[.int .i64 0, .int .i64 0]) (.agg #[.int .i64 0, .int .i64 0])).run Tryz.prog w = .ok true w := fun w => eq_row 0 0 0 0 w
    clear h hfl hv1 e1 hr hT hne
    go_enter Tryz.func64, Tryz.ntmps64
    go_wp2_with fail
    with_reducible refine (HLY.out _ HI.out).mono ?_
    rintro e w1 ⟨rfl, ⟨f, h1⟩, f1⟩
    have H1 := Lib.hid h1
    have F1 := Lib.hid f1
    clear h1 f1
    go_wp2_with fail
    with_reducible refine (hpl _ H1.out.tabs).mono ?_
    rintro e w2 ⟨rfl, f2⟩
    have H2 := Lib.hid ((H1.out.fr0 f2).alloc (.cells #[.int .i64 0, .int .i64 0] 170))
    have F2 := Lib.hid ((F1.out.trans f2.nil).alloc (.cells #[.int .i64 0, .int .i64 0] 170))
    have n0 := H2.out.tabs.now 0
    have n1 := H2.out.tabs.now 1
    simp [nowT, intsA] at n0 n1
    clear f2 hpl
    go_wp2_with fail
    go_ret
    exact ⟨0, rfl, fun e => absurd e HNE.out, ⟨f, H2.out⟩, F2.out⟩
end Go.Proofs.YtkapkbiccppldaaGreatDoor
