/- Heads of blocks in a memory: head.Put. -/
import Derived.Test.YtcagljjbiodcoaaDoorHdC
import Derived.Test.YtcagljjbiodcoaaDoorBack13
namespace Go.Proofs.YtcagljjbiodcoaaDoor
set_option linter.unusedVariables false
open Go.RowKit

/-- The fields below k are written, one after the other. -/
def TM.putH (t : TM) (x tag : Nat) (n : Nat → Nat) : Nat → TM
  | 0 => t
  | k + 1 => if (wh tag k).2 = 0 then t.putH x tag n k else (t.putH x tag n k).setB (x + (wh tag k).1) (wh tag k).2 (n k)
theorem putH_as (t : TM) (x tag : Nat) (n : Nat → Nat) : ∀ k, (t.putH x tag n k).a = t.a ∧ (t.putH x tag n k).s = t.s
  | 0 => ⟨rfl, rfl⟩
  | k + 1 => by
    rw [TM.putH]
    split
    · exact putH_as t x tag n k
    · exact putH_as t x tag n k
theorem putH_ok {t : TM} (h : t.Ok) (x tag : Nat) (n : Nat → Nat) : ∀ k, (t.putH x tag n k).Ok
  | 0 => h
  | k + 1 => by
    rw [TM.putH]
    split
    · exact putH_ok h x tag n k
    · exact setB_ok (putH_ok h x tag n k) _ _ _
theorem putH_head {t : TM} (hok : t.Ok) {x tag kind : Nat} {n n' : Nat → Nat} (hh : HeadTo t x tag kind n' 0) (hn : ∀ f, f < 12 → (wh tag f).2 ≠ 0 → n f < 256 ^ (wh tag f).2) : ∀ k, k ≤ 12 → HeadTo (t.putH x tag n k) x tag kind n k
  | 0, _ => ⟨hh.tg, hh.base, hh.al, hh.fit, hh.k0, hh.kinds, fun f hf => by omega, fun f hf => by omega⟩
  | k + 1, hk => by
    have ih := putH_head hok hh hn k (by omega)
    rw [TM.putH]
    split
    · next h0 => exact ih.more h0
    · next h0 => exact ih.next (putH_ok hok x tag n k) (by omega) h0 (hn k (by omega) h0)

def PutP (w : World) (q : MH) (t' : TM) (e : Ending) (w' : World) : Prop := e = .returned (.int .i64 0) ∧ IsH w' q t' ∧ Fr q.blocks w w'
def PutRel (w : World) (B : Nat) (q : MH) (t : TM) (x tag : Nat) (X : HB) (v : Value) (wr : World) : Prop :=
  ∃ k : Nat, k ≤ 12 ∧ v = .int .i64 k ∧ IsH wr q (t.putH x tag X.num k) ∧ Fr q.blocks w wr ∧ Blk wr B 43 X.cells

theorem hput_no (w : World) (q : MH) (t : TM) (h : IsH w q t) (at_ : Int) (X : HB) (hX : X.Ok) (hr : X.right = false) :
    Calls Tryd.prog 24 #[.pointer (some ⟨q.m, 0, none⟩), .int .i64 at_, X.val] w fun e w' => e = .returned (.int .i64 2) ∧ IsH w' q t ∧ Fr [] w w' := by
  have hR := fun W h => right_any W h X hX
  rw [hr] at hR
  have HI := Lib.hid h
  have hval : X.val = .agg #[.int .i64 X.tag, .int .i64 X.cls, .bool X.used, .int .i64 X.label, .int .u32 X.name, .int .u32 X.next, .int .u32 X.prev, .int .u32 X.refs, .int .u64 X.expiry, .int .u16 X.typ, .int .i64 X.size, .int .u32 X.hash] := rfl
  rw [hval] at hR ⊢
  clear hval hr hX h
  go_enter Tryd.func24, Tryd.ntmps24
  go_wp2_with fail
  with_reducible refine (hR _ (HI.out.alloc _).tabs).mono ?_
  rintro e w1 ⟨rfl, f1⟩
  have f2 : Fr [] w w1 := ((Fr.refl [] w).alloc _).trans f1
  clear f1 hR
  go_wp2_with fail
  go_ret
  exact ⟨rfl, HI.out.fr0 f2, f2⟩

set_option maxRecDepth 100000 in
set_option maxHeartbeats 8000000 in
theorem hput_yes (w : World) (q : MH) (t : TM) (h : IsH w q t) (x tag kind : Nat) (n' : Nat → Nat) (hh : HeadTo t x tag kind n' 0) (X : HB) (hX : X.Ok) (hr : X.right = true) (ht : X.tag = tag) (hk : (kind = 6 ∧ tag = 0) ∨ (kind = 5 ∧ tag ≠ 0)) :
    Calls Tryd.prog 24 #[.pointer (some ⟨q.m, 0, none⟩), .int .i64 x, X.val] w (PutP w q (t.putH x tag X.num 12)) := by
  have hR := fun W h => right_any W h X hX
  rw [hr] at hR
  have hN := fun W => numbers_any W X hX
  obtain ⟨arr, hA, hs, hg⟩ := nums_arr X
  rw [hA] at hN
  have HG := Lib.hid hg
  have hfit : ∀ f, f < 12 → (wh tag f).2 ≠ 0 → X.num f < 256 ^ (wh tag f).2 := fun f hf h0 => num_fit X hX tag (by have := hh.tg; omega) ht hr f hf h0
  have HHD := Lib.hid (fun k (hk : k ≤ 12) => putH_head h.m.ok hh hfit k hk)
  have HOK := Lib.hid (fun k => putH_ok h.m.ok x tag X.num k)
  have HAS := Lib.hid (fun k => putH_as t x tag X.num k)
  have HFIT := Lib.hid hfit
  have HI := Lib.hid h
  have HHH := Lib.hid hh
  have hlt := h.m.lt
  have hpl := fun W h (f : Nat) => place_any W h tag f
  have hP := Lib.hid (show ∀ w', IsH w' q (t.putH x tag X.num 12) → Fr q.blocks w w' → PutP w q (t.putH x tag X.num 12) (.returned (.int .i64 0)) w' from fun w' a b => ⟨rfl, a, b⟩)
  generalize PutP w q (t.putH x tag X.num 12) = P at *
  have HST := Lib.hid (show ∀ k : Nat, k < 12 → (wh tag k).2 ≠ 0 → ∀ W, IsH W q (t.putH x tag X.num k) → Calls Tryd.prog 60 #[.pointer (some ⟨q.m, 0, none⟩), .int .i64 ((x : Int) + ((wh tag k).1 : Nat)), .int .i64 (wh tag k).2, .int .i64 kind, .int .u64 (X.num k)] W fun e w'' => e = .returned (.bool true) ∧ IsT w'' q (t.putH x tag X.num (k + 1)) ∧ Fr q.blocks W w'' from fun k hk h0 W hW => by
    have hd := HHD.out k (by omega)
    obtain ⟨v, ha⟩ := hd.some (HOK.out k) k hk h0
    have e1 : t.putH x tag X.num (k + 1) = (t.putH x tag X.num k).setB (x + (wh tag k).1) (wh tag k).2 (X.num k) := by rw [TM.putH, if_neg h0]
    rw [e1, ← Int.natCast_add]
    exact tstore hW.m ha (hfit k hk h0) (setB_ok (HOK.out k) _ _ _) (setB_sto (HOK.out k) ha (by have := hd.base; omega) _ (hfit k hk h0)))
  have HSK := Lib.hid (show ∀ k : Nat, (wh tag k).2 = 0 → t.putH x tag X.num (k + 1) = t.putH x tag X.num k from fun k h0 => by rw [TM.putH, if_pos h0])
  have hls : x + 32 ≤ 1099511627776 := by
    obtain ⟨c1, c2, c3, c4, c5⟩ := h.m.ok.cfg
    have := hh.fit
    unfold lsize lbase at this; omega
  have hval : X.val = .agg #[.int .i64 tag, .int .i64 X.cls, .bool X.used, .int .i64 X.label, .int .u32 X.name, .int .u32 X.next, .int .u32 X.prev, .int .u32 X.refs, .int .u64 X.expiry, .int .u16 X.typ, .int .i64 X.size, .int .u32 X.hash] := by rw [← ht]; rfl
  have hcells : X.cells = #[.int .i64 tag, .int .i64 X.cls, .bool X.used, .int .i64 X.label, .int .u32 X.name, .int .u32 X.next, .int .u32 X.prev, .int .u32 X.refs, .int .u64 X.expiry, .int .u16 X.typ, .int .i64 X.size, .int .u32 X.hash] := by rw [← ht]; rfl
  rw [hval] at hR hN ⊢
  have HCE := Lib.hid hcells
  have hbq : w.heap.size ∉ q.blocks := fun hm => by have := hlt _ hm; omega
  have HBQ := Lib.hid hbq
  have ht2 := hh.tg
  have hkb : (((tag : Int) == 0) = true ∧ (kind : Int) = 6) ∨ (((tag : Int) == 0) = false ∧ (kind : Int) = 5) := by
    rcases hk with ⟨a, b⟩ | ⟨a, b⟩
    · exact .inl ⟨by simpa using b, by omega⟩
    · exact .inr ⟨by simpa using b, by omega⟩
  have HREL := Lib.hid (show ∀ B v wr, PutRel w B q t x tag X v wr = (∃ k : Nat, k ≤ 12 ∧ v = .int .i64 k ∧ IsH wr q (t.putH x tag X.num k) ∧ Fr q.blocks w wr ∧ Blk wr B 43 X.cells) from fun _ _ _ => rfl)
  generalize PutRel w = REL at *
  clear hval hr hX hcells hh h hg hA hs hfit ht hlt hbq hk
  rcases hkb with ⟨htb, hkk⟩ | ⟨htb, hkk⟩
  all_goals
    have HST := Lib.hid (fun k hk h0 W hW => by have := HST.out k hk h0 W hW; rw [hkk] at this; exact this)
    clear hkk
    go_enter Tryd.func24, Tryd.ntmps24
    go_wp2_with fail
    with_reducible refine (hR _ (HI.out.alloc _).tabs).mono ?_
    rintro e w1 ⟨rfl, f1⟩
    have hB1 : Blk w1 w.heap.size 43 X.cells := by rw [HCE.out]; exact (Blk.new w _ _).fr f1 (by simp)
    have hF1 : Fr [] w w1 := ((Fr.refl [] w).alloc _).trans f1
    have hI1 := Lib.hid (HI.out.fr0 hF1)
    have h0 := hB1.cell 0
    rw [HCE.out] at h0
    simp at h0
    clear f1 hR
    have hcs : ∀ i, w1.cell? ⟨w.heap.size, i, none⟩ = (#[.int .i64 tag, .int .i64 X.cls, .bool X.used, .int .i64 X.label, .int .u32 X.name, .int .u32 X.next, .int .u32 X.prev, .int .u32 X.refs, .int .u64 X.expiry, .int .u16 X.typ, .int .i64 X.size, .int .u32 X.hash] : Array Value)[i]? := fun i => by rw [← HCE.out]; exact hB1.cell i
    go_wp2_with fail
    with_reducible refine (hN _).mono ?_
    rintro e w2 ⟨rfl, f2⟩
    have hF2 := Lib.hid (hF1.trans f2)
    have hI2 := Lib.hid (hI1.out.fr0 f2)
    have hB2 := Lib.hid (hB1.fr f2 (by simp))
    clear f2 hN hF1 hB1 hI1 hcs h0
    go_wp2_with fail
    go_loopw [19] (fun v W => REL w.heap.size q t x tag X v W) (fun v _ => 12 - (intOf v).toNat)
    case atStart => rw [HREL.out]; exact ⟨0, by omega, rfl, hI2.out, hF2.out.nil, hB2.out⟩
    case round =>
      clear hF2 hI2 hB2
      rw [HREL.out] at hrel
      obtain ⟨k, hk, rfl, hI, hF, hB⟩ := hrel
      have HIr := Lib.hid hI
      have HFr := Lib.hid hF
      have HBr := Lib.hid hB
      have h0 := hB.cell 0
      rw [HCE.out] at h0
      simp at h0
      have hltB := hB.lt
      clear hI hF hB
      by_cases hlt : k < 12
      · have hix := run_index_nums arr k hlt (X.num k) (HG.out k hlt)
        have hp := fun W h => hpl W h k
        by_cases hw : (wh tag k).2 = 0
        · have hwz : whZ tag k = (0, 0) := wh_zero tag k (by rw [whZ_nat tag k (by omega) hlt]; exact hw)
          rw [hwz] at hp
          simp only [rowV] at hp
          have hsk := Lib.hid (HSK.out k hw)
          have hE : ∀ w, (Op.equalIn 10000 101 (.agg #[.int .i64 0, .int .i64 0]) (.agg #[.int .i64 0, .int .i64 0])).run Tryd.prog w = .ok true w := fun w => eq_row 0 0 0 0 w
          clear hpl hwz hw
          generalize X.num k = nv at *
          go_wp2_with fail
          with_reducible refine (hp _ HIr.out.tabs).mono ?_
          rintro e w3 ⟨rfl, f3⟩
          have hI3 := Lib.hid ((HIr.out.fr0 f3).alloc (.cells #[.int .i64 0, .int .i64 0] 101))
          have n0 := hI3.out.tabs.now 0
          have n1 := hI3.out.tabs.now 1
          simp [nowT, intsA] at n0 n1
          have hF3 := Lib.hid ((HFr.out.trans f3.nil).alloc (.cells #[.int .i64 0, .int .i64 0] 101))
          have hB3 := Lib.hid ((HBr.out.fr f3 (by simp)).alloc (.cells #[.int .i64 0, .int .i64 0] 101))
          clear f3 h0 hix hp
          go_wp2_with fail
          rw [HREL.out]
          exact ⟨⟨k + 1, by omega, by go_num, by rw [hsk.out]; exact hI3.out, hF3.out, hB3.out⟩, by simp [intOf]; omega⟩
        · have hwz : whZ tag k = wh tag k := whZ_nat tag k (by omega) hlt
          rw [hwz] at hp
          obtain ⟨hk1, hk2, hk3⟩ := wh_ok tag k ht2 hlt hw
          have hs := sz_le tag ht2
          have hst := HST.out k hlt hw
          generalize hT2 : t.putH x tag X.num (k + 1) = t2 at *
          have HT2 := Lib.hid hT2
          clear hpl hwz hT2
          generalize wh tag k = ab at *
          obtain ⟨a, b⟩ := ab
          simp only [rowV] at hp
          simp only at hk1 hk2 hk3 hw hst
          have hb0 : ((b : Int) == 0) = false := by simp; omega
          have hw1 : IntKind.i64.wrap ((x : Int) + a) = (x : Int) + a := IntWalk.i64_in _ (by omega)
          have hE : ∀ w, (Op.equalIn 10000 101 (.agg #[.int .i64 a, .int .i64 b]) (.agg #[.int .i64 0, .int .i64 0])).run Tryd.prog w = .ok false w := fun w => by rw [eq_row, hb0, Bool.and_false]
          generalize X.num k = nv at *
          clear hk1 hk2 hw
          go_wp2_with fail
          with_reducible refine (hp _ HIr.out.tabs).mono ?_
          rintro e w3 ⟨rfl, f3⟩
          have hI3 := Lib.hid ((HIr.out.fr0 f3).alloc (.cells #[.int .i64 a, .int .i64 b] 101))
          have n0 := hI3.out.tabs.now 0
          have n1 := hI3.out.tabs.now 1
          simp [nowT, intsA] at n0 n1
          have hF3 := Lib.hid ((HFr.out.trans f3.nil).alloc (.cells #[.int .i64 a, .int .i64 b] 101))
          have hB3 := Lib.hid ((HBr.out.fr f3 (by simp)).alloc (.cells #[.int .i64 a, .int .i64 b] 101))
          clear f3 h0 hix hp
          go_wp2_with fail
          with_reducible refine (hst _ hI3.out).mono ?_
          rintro e w4 ⟨rfl, h4, f4⟩
          have hI4 := Lib.hid (hI3.out.step h4 f4)
          have hF4 := Lib.hid (hF3.out.trans f4)
          have hB4 := Lib.hid (hB3.out.fr f4 HBQ.out)
          clear h4 f4 hst
          go_wp2_with fail
          rw [HREL.out]
          exact ⟨⟨k + 1, by omega, by go_num, by rw [HT2.out]; exact hI4.out, hF4.out, hB4.out⟩, by simp [intOf]; omega⟩
      · obtain rfl : k = 12 := by omega
        clear hpl
        go_wp2_with fail
        exact hP.out _ HIr.out HFr.out
end Go.Proofs.YtcagljjbiodcoaaDoor
